/-
  Part of the proof of PortLists: RxNil.
-/
import Derived.Test.YtonjhkefnijlhaaDoorQRxGen
import Derived.Lib.LazyBuf
set_option linter.all false
namespace Go.Proofs.YtonjhkefnijlhaaDoor.RX
open Go.RowKit
section
variable {P : Program} {nt : Nat} {F0 : Fz} {w0 : Pt P} {K : List (Nat × D)} {L : Boxes} {Q : Exit → Act → World → Prop}
theorem eqGuard_slice (op : BinOp) (t : Nat) (x y : Operand) (p q : Option Addr) (m n c c' : Nat) (w : World) : (eqGuard op t x y (.slice p m c) (.slice q n c')).run P w = .ok () w := by
  unfold eqGuard; split <;> rfl
theorem put_get {a : Act} {t : Nat} {v : Value} (h : t < a.tmps.size) : (a.put (some t) v).tmps[t]? = some v := by
  simp [Act.put, h]
theorem Wp.nilR {id t0 t3 t4 ty yt e : Nat} {neg : Bool} {o1 o2 : Oper} {α : Type} {d : α} {enc : α → List D} {l : List α} (hu : P.underlying ty = some (.slice e))
    (h1 : o1.op = .move (.tmp t0)) (d1 : o1.dst = some t3) (g1 : o1.guard = none)
    (h2 : o2.op = .binOp (if neg = true then .neq else .eql) ty (.tmp t3) (.const (.slice none 0 0)) yt) (d2 : o2.dst = some t4) (g2 : o2.guard = none)
    (hlt : t3 < nt ∧ t4 < nt ∧ t3 ≠ t4) (hK : K.lookup t0 = some (.recs d enc l))
    (hA : l = [] → To nt F0 w0 ((t4, .val (.bool (!neg))) :: K.filter fun x => x.1 != t3 && x.1 != t4) L .normal Q)
    (hB : To nt F0 w0 ((t4, .val (.bool neg)) :: K.filter fun x => x.1 != t3 && x.1 != t4) L .normal Q) :
    Wp P nt F0 w0 K L (.region id #[o1, o2] false) Q := by
  rintro a w ⟨B, F, hb, hd, hs, hk⟩
  obtain ⟨v, hv, hr⟩ := hk _ (mem_of_lookup hK)
  have hsl : ∃ q n c, v = .slice q n c ∧ (q = none → l = []) := by
    cases hr with
    | recsNil _ _ p => exact ⟨p, 0, 0, rfl, fun _ => rfl⟩
    | recs _ _ _ g off cap size vs hz h1 h2 h3 hc => exact ⟨_, _, _, rfl, fun h => by cases h⟩
  obtain ⟨q, n, c, rfl, hq⟩ := hsl
  refine wp_region_list ?_
  have e1 : (execOp a.eval o1).run P w = .ok (.value (.slice q n c)) w := by
    unfold execOp
    simp only [h1, eval_tmp hv, Sem.run_pure]
  have hw1 : Region.wanted o1 (yielded #[o1, o2] a.tmps) = true := by simp [Region.wanted, g1]
  unfold wpList
  rw [if_pos hw1]
  refine .inl ?_
  unfold Oper.wp
  rw [e1, Oper.upon_value, d1]
  show wpList P #[o1, o2] Q [o2] (a.put (some t3) (.slice q n c)) w
  have hv3 : (a.put (some t3) (.slice q n c)).tmps[t3]? = some (.slice q n c) := put_get (by omega)
  have e2 : (execOp (a.put (some t3) (.slice q n c)).eval o2).run P w = .ok (.value (.bool (xor neg q.isNone))) w := by
    unfold execOp
    have hc : (a.put (some t3) (.slice q n c)).eval (.const (.slice none 0 0)) = .slice none 0 0 := rfl
    cases neg with
    | false =>
      simp only [Bool.false_eq_true, if_false] at h2
      simp only [h2, eval_tmp hv3, hc, Sem.run_bind, eqGuard_slice, Result.andThen_ok, Go.run_eql_slice_nil w ty e q n c hu, Sem.run_pure, Bool.false_xor]
    | true =>
      simp only [if_true] at h2
      have h5 := Go.run_neq_slice_nil (P := P) w ty e q n c hu
      simp only [h2, eval_tmp hv3, hc, Sem.run_bind, eqGuard_slice, Result.andThen_ok]
      rw [h5]
      simp only [Sem.run_pure, Result.andThen_ok, Bool.true_xor]
  have hw2 : Region.wanted o2 (yielded #[o1, o2] (a.put (some t3) (.slice q n c)).tmps) = true := by simp [Region.wanted, g2]
  unfold wpList
  rw [if_pos hw2]
  refine .inl ?_
  unfold Oper.wp
  rw [e2, Oper.upon_value, d2]
  show wpList P #[o1, o2] Q [] ((a.put (some t3) (.slice q n c)).put (some t4) (.bool (xor neg q.isNone))) w
  have hst : ∀ b, xor neg q.isNone = b → St nt F0 w0 ((t4, .val (.bool b)) :: K.filter fun x => x.1 != t3 && x.1 != t4) L ((a.put (some t3) (.slice q n c)).put (some t4) (.bool (xor neg q.isNone))) w := by
    intro b hb'
    refine ⟨B, F, hb, by simpa [Act.put] using hd, by simp [Act.put, hs], fun x hx => ?_⟩
    rcases List.mem_cons.1 hx with rfl | hx
    · exact ⟨_, put_get (by simp [Act.put]; omega), by rw [hb']; exact .val _ rfl⟩
    · obtain ⟨hx1, hx2⟩ := List.mem_filter.1 hx
      simp only [Bool.and_eq_true, bne_iff_ne, ne_eq] at hx2
      obtain ⟨u, h3, h4⟩ := hk x hx1
      exact ⟨u, by rw [put_other hx2.2, put_other hx2.1]; exact h3, h4⟩
  refine wpList_nil ?_
  cases hqn : q with
  | none =>
    have hl := hq hqn
    have := hA hl _ _ (hst (!neg) (by rw [hqn]; cases neg <;> rfl))
    rw [hqn] at this; exact this
  | some x =>
    have := hB _ _ (hst neg (by rw [hqn]; cases neg <;> rfl))
    rw [hqn] at this; exact this
mutual
def D.plain : D → Bool
  | .val _ => true
  | .str _ => true
  | .agg ds => D.plains ds
  | .tup ds => D.plains ds
  | _ => false
def D.plains : List D → Bool
  | [] => true
  | d :: ds => D.plain d && D.plains ds
end
mutual
theorem Rep.plain {F F' : Fz} {w w' : World} {B B' : Env} : ∀ {d : D} {v : Value}, D.plain d = true → Rep F w B d v → Rep F' w' B' d v
  | .val _, _, _, hr => by cases hr; exact .val _ (by assumption)
  | .str _, _, _, hr => by cases hr; exact .str _
  | .agg ds, _, h, hr => by cases hr with | agg _ vs hr => exact .agg ds vs (RepL.plain (ds := ds) h hr)
  | .tup ds, _, h, hr => by cases hr with | tup _ vs hr => exact .tup ds vs (RepL.plain (ds := ds) h hr)
theorem RepL.plain {F F' : Fz} {w w' : World} {B B' : Env} : ∀ {ds : List D} {vs : List Value}, D.plains ds = true → RepL F w B ds vs → RepL F' w' B' ds vs
  | [], _, _, .nil => .nil
  | d :: ds, _, h, .cons _ v _ vs hr hrs => by
    simp only [D.plains, Bool.and_eq_true] at h
    exact .cons d v ds vs (Rep.plain h.1 hr) (RepL.plain h.2 hrs)
end
end
end Go.Proofs.YtonjhkefnijlhaaDoor.RX
