/-
  Part of the proof of StoreNil: RxAnyB.
-/
import Derived.Test.YtaecmkldkljioaaQRxAny
set_option linter.all false
namespace Go.Proofs.Ytaecmkldkljioaa.RX
open Go.RowKit
section
variable {P : Program} {F0 : Fz} {w0 : Pt P} {B : Env} {F : Fz} {w : World} {a : Act} {Q : Exit → Act → World → Prop} {Γ : Nat → Option TI} {nt : Nat} {ops : List Oper} {L0 : Boxes} {orc : List (Nat × D)} {K : List (Nat × D)} {st : Nat → DS}
def memS (L0 : Boxes) (A T : List (Nat × Nat × Nat × List D)) (N : Option NRow) (S : Nat → Bool) : Mem := fun k t ds =>
  (∃ c0, (((k, t, c0) ∈ L0 ∧ isRowc c0 = false) ∨ ∃ i, S i = true ∧ (i, k, t, c0) ∈ A) ∧ ds = applyT k c0 (T.filter fun x => S x.1)) ∨
  ((k, t, ds) ∈ L0 ∧ isRowc ds = true ∧ ∀ n, N = some n → n.old = some k → S n.i = false) ∨
  (∃ n, N = some n ∧ S n.i = true ∧ k = n.t ∧ t = n.e ∧ ds = [n.r])
structure InvD {P : Program} (nt : Nat) (ops : List Oper) (L0 : Boxes) (K : List (Nat × D)) (sn : DS) (S : Nat → Bool) (F0 : Fz) (w0 : Pt P) (B : Env) (F : Fz) (a : Act) (w : World) : Prop where
  base : Base F0 w0 B F (memS L0 sn.A sn.T sn.N S) w
  defers : a.defers = []
  size : a.tmps.size = nt
  old : ∀ x ∈ K, (∀ k o, S k = true → ops[k]? = some o → o.dst ≠ some x.1) → ∃ v, a.tmps[x.1]? = some v ∧ Rep F w B x.2 v
  new : ∀ e ∈ sn.K, ∀ j, e.src = j + 1 → S j = true → EntOK F w B sn.tab a e
  fresh : ∀ x ∈ sn.A, S x.1 = false → B x.2.1 = none ∧ ∀ y ∈ sn.T, y.2.1 = x.2.1 → S y.1 = false
  freshN : ∀ n, sn.N = some n → S n.i = false → B n.t = none
  closed : ∀ k o, S k = true → ops[k]? = some o → ∀ j ∈ onL o, S j = true
variable {S : Nat → Bool} {i : Nat} {o : Oper}
def setS (S : Nat → Bool) (i : Nat) : Nat → Bool := fun k => k == i || S k
theorem dst_unique : ∀ {l : List Oper}, dstsOK l = true → ∀ {j k : Nat} {x y : Oper} {t : Nat}, l[j]? = some x → l[k]? = some y → x.dst = some t → y.dst = some t → j = k
  | [], _, j, k, x, y, t, hj, _, _, _ => by simp at hj
  | o :: l, h, j, k, x, y, t, hj, hk, hx, hy => by
    unfold dstsOK at h
    rw [Bool.and_eq_true] at h
    have key : ∀ (z : Oper) (m : Nat), l[m]? = some z → z.dst = some t → o.dst = some t → False := by
      intro z m hm hz ho
      rw [ho] at h
      simp only at h
      have := List.all_eq_true.1 h.1 z (List.mem_of_getElem? hm)
      rw [hz] at this; simp at this
    cases j with
    | zero =>
      cases k with
      | zero => rfl
      | succ k =>
        simp only [List.getElem?_cons_zero, Option.some.injEq] at hj
        subst hj
        exact (key y k (by simpa using hk) hy hx).elim
    | succ j =>
      cases k with
      | zero =>
        simp only [List.getElem?_cons_zero, Option.some.injEq] at hk
        subst hk
        exact (key x j (by simpa using hj) hx hy).elim
      | succ k =>
        exact congrArg (· + 1) (dst_unique h.2 (by simpa using hj) (by simpa using hk) hx hy)
theorem Reads.boxOf {get : Operand → Option D} {op : Op} {k : Nat} (h : Reads get op k) : RX.boxOf get op = some k := by
  obtain ⟨t, x, off, h1, h2⟩ := h
  rcases h1 with rfl | ⟨y, rfl⟩ <;> simp [RX.boxOf, h2]
theorem InvD.put (ht : Trace (CX P) Γ nt orc ops L0 K st) (hd : dstsOK ops = true) (hi : InvD nt ops L0 K (st ops.length) S F0 w0 B F a w) (ho : ops[i]? = some o) (hr : ∀ j ∈ onL o, S j = true)
    {B' : Env} {F' : Fz} {w' : World} (hB : ∀ k b, B k = some b → B' k = some b) (hg : Grow F F' w w') (hb : Base F0 w0 B' F' (memS L0 (st ops.length).A (st ops.length).T (st ops.length).N (setS S i)) w')
    (hfresh : ∀ x ∈ (st ops.length).A, setS S i x.1 = false → B' x.2.1 = none ∧ ∀ y ∈ (st ops.length).T, y.2.1 = x.2.1 → setS S i y.1 = false) (hfN : ∀ n, (st ops.length).N = some n → setS S i n.i = false → B' n.t = none)
    {v : Value} (hv : ∀ t, o.dst = some t → t < nt ∧ ∀ e ∈ (st ops.length).K, e.src = i + 1 → (holds (st ops.length).tab e.cnd = true → Rep F' w' B' e.d v) ∧ (holds (st ops.length).tab e.cnd = false → v = undef)) :
    InvD nt ops L0 K (st ops.length) (setS S i) F0 w0 B' F' (a.put o.dst v) w' := by
  have hgood := ht.good ops.length (Nat.le_refl _)
  have hS : ∀ k, setS S i k = true ↔ k = i ∨ S k = true := by intro k; simp [setS]
  refine ⟨hb, by rw [put_defers]; exact hi.defers, by rw [put_size]; exact hi.size, fun x hx hnd => ?_, fun e he j hj hSj => ?_, hfresh, hfN, fun k o' hk ho' j hj => ?_⟩
  · obtain ⟨u, h1, h2⟩ := hi.old x hx fun k o' hk ho' => hnd k o' ((hS k).2 (.inr hk)) ho'
    refine ⟨u, ?_, (h2.extB hB).grow hg⟩
    cases hdd : o.dst with
    | none => exact h1
    | some t => rw [put_other (fun e => hnd i o ((hS i).2 (.inl rfl)) ho (by rw [hdd, e]))]; exact h1
  · obtain ⟨hds, _⟩ := hgood.dsts e he j hj
    by_cases hji : j = i
    · subst hji
      rw [ho] at hds
      simp only [Option.bind] at hds
      obtain ⟨hnt, hvv⟩ := hv _ hds
      obtain ⟨h1, h2⟩ := hvv e he hj
      rw [hds]
      have hsz : e.slot < a.tmps.size := by rw [hi.size]; exact hnt
      exact ⟨fun hh => ⟨v, put_same hsz, h1 hh⟩, fun hh => by rw [put_same hsz, h2 hh]⟩
    · have hSj' : S j = true := by rcases (hS j).1 hSj with h | h <;> first | exact absurd h hji | exact h
      have h0 := hi.new e he j hj hSj'
      have h1 : EntOK F' w' B' (st ops.length).tab a e := ⟨fun hh => let ⟨u, h2, h3⟩ := h0.1 hh; ⟨u, h2, (h3.extB hB).grow hg⟩, h0.2⟩
      cases hdd : o.dst with
      | none => exact h1
      | some t =>
        refine h1.put fun e' => hji ?_
        cases hoj : ops[j]? with
        | none => rw [hoj] at hds; cases hds
        | some oj =>
          rw [hoj] at hds
          exact dst_unique hd hoj ho hds (by rw [hdd, e'])
  · rcases (hS k).1 hk with rfl | hk
    · rw [ho] at ho'; cases ho'
      exact (hS j).2 (.inr (hr j hj))
    · exact (hS j).2 (.inr (hi.closed k o' hk ho' j hj))
mutual
theorem Rep.noname {F : Fz} {w : World} {B : Env} {t : Nat} (ht : B t = none) : ∀ {d v}, Rep F w B d v → D.names t d = false
  | _, _, .val v hv => rfl
  | _, _, .str l => rfl
  | _, _, .own i off b h => by
    simp only [D.names, beq_eq_false_iff_ne]; intro e; subst e; rw [ht] at h; cases h
  | _, _, .opt i b v h hv => by
    simp only [D.names, beq_eq_false_iff_ne]; intro e; subst e; rw [ht] at h; cases h
  | _, _, .srow j p n cap h => by
    simp only [D.names, beq_eq_false_iff_ne]; intro e; subst e; rw [ht] at h; cases h
  | _, _, .mp j b h => by
    simp only [D.names, beq_eq_false_iff_ne]; intro e; subst e; rw [ht] at h; cases h
  | _, _, .agg ds vs h => RepL.noname ht h
  | _, _, .tup ds vs h => RepL.noname ht h
  | _, _, .recsNil d enc p => rfl
  | _, _, .recs d enc l gb off cap size vs hz h1 h2 h3 hc => rfl
  | _, _, .el ds vs gb off h h2 => rfl
  | _, _, .fn f ds vs h => RepL.noname ht h
  | _, _, .row j p n cap h => by
    simp only [D.names, beq_eq_false_iff_ne]; intro e; subst e; rw [ht] at h; cases h
  | _, _, .rowNil j q h => by
    simp only [D.names, beq_eq_false_iff_ne]; intro e; subst e; rw [ht] at h; cases h
  | _, _, .elm j n z off b nn cap h => by
    simp only [D.names, beq_eq_false_iff_ne]; intro e; subst e; rw [ht] at h; cases h
  | _, _, .tree d pre kids l v h => rfl
  | _, _, .arr d enc l vs hg h => rfl
  | _, _, .hole v hv => rfl
theorem RepL.noname {F : Fz} {w : World} {B : Env} {t : Nat} (ht : B t = none) : ∀ {ds vs}, RepL F w B ds vs → D.namess t ds = false
  | _, _, .nil => rfl
  | _, _, .cons d v ds vs h hs => by
    simp only [D.namess, Bool.or_eq_false_iff]
    exact ⟨Rep.noname ht h, RepL.noname ht hs⟩
end
theorem Held.noname {k t u : Nat} {ds : List D} (h : Held F w B k t ds) (hu : B u = none) : k ≠ u ∧ D.namess u ds = false := by
  cases h with
  | box _ b vs hB hr hfl hh hnf => exact ⟨(fun e => by subst e; rw [hu] at hB; cases hB), hr.noname hu⟩
  | row m d enc l p n cap hB h => exact ⟨(fun e => by subst e; rw [hu] at hB; cases hB), rfl⟩
  | map kk ag d enc l b hB h => exact ⟨(fun e => by subst e; rw [hu] at hB; cases hB), rfl⟩
  | obj b o S hB => exact ⟨(fun e => by subst e; rw [hu] at hB; cases hB), rfl⟩
end
end Go.Proofs.Ytaecmkldkljioaa.RX
