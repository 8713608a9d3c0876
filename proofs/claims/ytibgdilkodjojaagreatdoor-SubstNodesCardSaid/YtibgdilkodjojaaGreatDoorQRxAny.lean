import Derived.Test.YtibgdilkodjojaaGreatDoorQRxWp
set_option linter.all false
namespace Go.Proofs.YtibgdilkodjojaaGreatDoor.RX
open Go.RowKit
section
variable {C : Nat → List D → D → Prop} {P : Program} {F0 : Fz} {w0 : Pt P} {B : Env} {F : Fz} {w : World} {a : Act} {Q : Exit → Act → World → Prop} {Γ : Nat → Option TI} {nt : Nat} {ops : List Oper} {L0 : Boxes} {orc : List (Nat × D)}
structure ExtD (i : Nat) (s s' : DS) : Prop where
  K : ∃ K1, s'.K = K1 ++ s.K ∧ ∀ e ∈ K1, i + 1 ≤ e.src
  A : ∃ A1, s'.A = A1 ++ s.A ∧ ∀ x ∈ A1, i ≤ x.1
  T : ∃ T1, s'.T = T1 ++ s.T ∧ ∀ x ∈ T1, i ≤ x.1
  R : ∃ R1, s'.R = R1 ++ s.R ∧ ∀ x ∈ R1, i ≤ x.1
  N : (∀ n, s.N = some n → s'.N = some n) ∧ (∀ n, s'.N = some n → s.N = some n ∨ (s.N = none ∧ i ≤ n.i))
  Q : ∀ x ∈ s.Q, x ∈ s'.Q
  tab : ∀ j, j < i → tv s'.tab j = tv s.tab j
  obl : ∀ p ∈ s.obl, p ∈ s'.obl
theorem ExtD.refl (i : Nat) (s : DS) : ExtD i s s := ⟨⟨[], rfl, by simp⟩, ⟨[], rfl, by simp⟩, ⟨[], rfl, by simp⟩, ⟨[], rfl, by simp⟩, ⟨fun _ h => h, fun _ h => .inl h⟩, fun _ h => h, fun _ _ => rfl, fun _ h => h⟩
theorem ExtD.trans {i j : Nat} {s s' s'' : DS} (hij : i ≤ j) (h : ExtD i s s') (h' : ExtD j s' s'') : ExtD i s s'' := by
  obtain ⟨⟨K1, hK, hK1⟩, ⟨A1, hA, hA1⟩, ⟨T1, hT, hT1⟩, ⟨R1, hR, hR1⟩, ⟨hN1, hN2⟩, hQ, ht, ho⟩ := h
  obtain ⟨⟨K2, hK', hK2⟩, ⟨A2, hA', hA2⟩, ⟨T2, hT', hT2⟩, ⟨R2, hR', hR2⟩, ⟨hN1', hN2'⟩, hQ', ht', ho'⟩ := h'
  refine ⟨⟨K2 ++ K1, by rw [hK', hK, List.append_assoc], fun e he => ?_⟩, ⟨A2 ++ A1, by rw [hA', hA, List.append_assoc], fun e he => ?_⟩, ⟨T2 ++ T1, by rw [hT', hT, List.append_assoc], fun e he => ?_⟩, ⟨R2 ++ R1, by rw [hR', hR, List.append_assoc], fun e he => ?_⟩,
    ⟨fun n h => hN1' n (hN1 n h), fun n h => ?_⟩, fun x hx => hQ' x (hQ x hx), fun k hk => by rw [ht' k (by omega), ht k hk], fun p hp => ho' p (ho p hp)⟩
  · rcases List.mem_append.1 he with h | h
    · have := hK2 e h; omega
    · exact hK1 e h
  · rcases List.mem_append.1 he with h | h
    · have := hA2 e h; omega
    · exact hA1 e h
  · rcases List.mem_append.1 he with h | h
    · have := hT2 e h; omega
    · exact hT1 e h
  · rcases List.mem_append.1 he with h | h
    · have := hR2 e h; omega
    · exact hR1 e h
  · rcases hN2' n h with h1 | ⟨h1, h2⟩
    · exact hN2 n h1
    · refine .inr ⟨?_, by omega⟩
      cases hs : s.N with
      | none => rfl
      | some m => rw [hN1 m hs] at h1; cases h1
inductive StepD (C : Nat → List D → D → Prop) (Γ : Nat → Option TI) (nt : Nat) (orc : List (Nat × D)) (ops : List Oper) (L0 : Boxes) (i : Nat) (o : Oper) (s s' : DS) (g : Cnd) (Kr : List Ent) : Prop
  | pick (c a b : Operand) (t tc : Nat) (e : Ent) (bc ba bb : Bool) (hop : o.op = .pick c a b) (hd : o.dst = some t) (hc : c = .tmp tc) (he : findSlot Kr tc = some e) (hle : e.cnd.le g = true) (hsrc : e.src ≠ 0) (ht : t < nt)
      (hec : e.d = .val (.bool bc)) (hea : getOp Kr ((e.src - 1, true) :: g) a = some (.val (.bool ba))) (heb : getOp Kr ((e.src - 1, false) :: g) b = some (.val (.bool bb)))
      (hs : s' = { s with K := ⟨t, i + 1, g, .val (.bool (bif bc then ba else bb))⟩ :: s.K, tab := (i, bif bc then ba else bb) :: s.tab })
  | val (d : D) (cs : List Bool) (t : Nat) (hd : o.dst = some t) (ht : t < nt) (he : evOp Γ (viewAt L0 s (keysOf (getOp Kr g) o.op) (ancL ops i)) (getOp Kr g) o.dst o.op = some (.val d, cs)) (hbx : boxOK (onL o) s (boxOf (getOp Kr g) o.op) = true)
      (hs : s' = { s with K := ⟨t, i + 1, g, d⟩ :: s.K, tab := addTab i d s.tab, obl := s.obl ++ cs.map (fun c => withOb s.tab g c = true), R := match boxOf (getOp Kr g) o.op with | some k => (i, k) :: s.R | none => s.R, Q := (keysOf (getOp Kr g) o.op).map (fun k => (i, k)) ++ s.Q })
  | call (f : Nat) (args : List D) (r : D) (t : Nat) (hd : o.dst = some t) (ht : t < nt) (hr : orc.lookup i = some r) (hna : D.noOwns args = true) (he : evOp Γ (viewAt L0 s (keysOf (getOp Kr g) o.op) (ancL ops i)) (getOp Kr g) o.dst o.op = some (.call f args, [])) (hbx : boxOK (onL o) s (boxOf (getOp Kr g) o.op) = true)
      (hs : s' = { s with K := ⟨t, i + 1, g, r⟩ :: s.K, tab := addTab i r s.tab, obl := s.obl ++ [holds s.tab g = true → C f args r], Q := (keysOf (getOp Kr g) o.op).map (fun k => (i, k)) ++ s.Q })
  | box (ty : Nat) (cells : List D) (t : Nat) (hg : g = []) (hd : o.dst = some t) (ht : t < nt ∧ t < 1000000) (hfl : cells.all D.flat = true) (hK : (s.K.all fun x => !(x.src == 0) || !D.names t x.d) = true) (hL : (L0.all fun x => !(x.1 == t) && !D.namess t x.2.2) = true) (hA : (s.A.all fun x => !(x.2.1 == t)) = true)
      (he : evOp Γ (viewAt L0 s (keysOf (getOp Kr g) o.op) (ancL ops i)) (getOp Kr g) o.dst o.op = some (.box ty cells, [])) (hbx : boxOK (onL o) s (boxOf (getOp Kr g) o.op) = true)
      (hs : s' = { s with K := ⟨t, i + 1, [], .own t 0⟩ :: s.K, A := (i, t, ty, cells) :: s.A, Q := (keysOf (getOp Kr g) o.op).map (fun k => (i, k)) ++ s.Q })
  | store (k off : Nat) (cells : List D) (hg : g = []) (hd : o.dst = none) (hfl : cells.all D.flat = true) (hR : (s.R.all fun x => !(x.2 == k) || (onL o).contains x.1) = true) (hbk : boxOf (getOp Kr g) o.op = some k)
      (he : evOp Γ (viewAt L0 s (keysOf (getOp Kr g) o.op) (ancL ops i)) (getOp Kr g) o.dst o.op = some (.store k off cells, [])) (hbx : boxOK (onL o) s (boxOf (getOp Kr g) o.op) = true)
      (hs : s' = { s with T := (i, k, off, cells) :: s.T, Q := (keysOf (getOp Kr g) o.op).map (fun k => (i, k)) ++ s.Q })
  | fresh (e : Nat) (m : Bool) (spec : D → Prop) (cs : List Bool) (r : D) (t : Nat) (hd : o.dst = some t) (ht : t < nt) (he : evOp Γ (viewAt L0 s (keysOf (getOp Kr g) o.op) (ancL ops i)) (getOp Kr g) o.dst o.op = some (.row e m none spec, cs)) (hbx : boxOK (onL o) s (boxOf (getOp Kr g) o.op) = true)
      (hs : s' = { s with K := ⟨t, i + 1, g, r⟩ :: s.K, tab := addTab i r s.tab, obl := s.obl ++ (cs.map fun c => withOb s.tab g c = true) ++ [holds s.tab g = true → spec r ∧ GoodR r], Q := (keysOf (getOp Kr g) o.op).map (fun k => (i, k)) ++ s.Q })
  | known (spec : D → Prop) (r : D) (t : Nat) (hd : o.dst = some t) (ht : t < nt) (he : evOp Γ (viewAt L0 s (keysOf (getOp Kr g) o.op) (ancL ops i)) (getOp Kr g) o.dst o.op = some (.known spec, [])) (hbx : boxOK (onL o) s (boxOf (getOp Kr g) o.op) = true)
      (hs : s' = { s with K := ⟨t, i + 1, g, r⟩ :: s.K, tab := addTab i r s.tab, obl := s.obl ++ [holds s.tab g = true → spec r], Q := (keysOf (getOp Kr g) o.op).map (fun k => (i, k)) ++ s.Q })
  | app (e : Nat) (m : Bool) (k : Nat) (spec : D → Prop) (cs : List Bool) {α : Type} (d : α) (enc : α → List D) (l : List α) (t : Nat) (hg : g = []) (hd : o.dst = some t) (ht : t < nt ∧ t < 1000000) (hN : s.N = none) (hQ : (s.Q.all fun x => !(x.2 == k) || (ancL ops i).contains x.1) = true)
      (hK : (s.K.all fun x => !(x.src == 0) || !D.names t x.d) = true) (hL : (L0.all fun x => !(x.1 == t) && !D.namess t x.2.2) = true) (hA : (s.A.all fun x => !(x.2.1 == t) && !D.namess t x.2.2.2) = true)
      (he : evOp Γ (viewAt L0 s (keysOf (getOp Kr g) o.op) (ancL ops i)) (getOp Kr g) o.dst o.op = some (.row e m (some k) spec, cs)) (hbx : boxOK (onL o) s (boxOf (getOp Kr g) o.op) = true)
      (hs : s' = { s with K := ⟨t, i + 1, [], .row t⟩ :: s.K, N := some ⟨i, some k, t, e, .rowc m d enc l⟩, obl := s.obl ++ (cs.map fun c => withOb s.tab [] c = true) ++ [spec (.recs d enc l) ∧ GoodR (.recs d enc l)], Q := (keysOf (getOp Kr g) o.op).map (fun k => (i, k)) ++ s.Q })
theorem stepD_inv {i : Nat} {o : Oper} {s s' : DS} (h : stepD C Γ nt orc ops L0 i o s = some s') :
    ∃ g, guardCnd ops (s.K.filter (okFor ops i (onL o))) o.guard = some g ∧ StepD C Γ nt orc ops L0 i o s s' g (s.K.filter (okFor ops i (onL o))) := by
  unfold stepD at h
  simp only at h
  split at h
  · cases h
  · rename_i g hg
    refine ⟨g, hg, ?_⟩
    split at h
    · rename_i c x y hop
      unfold pickD at h
      split at h
      · rename_i t tc hd
        split at h
        · rename_i e he
          split at h
          · rename_i hcond
            split at h
            · rename_i bc ba bb hec hea heb
              cases h
              exact .pick _ _ _ t tc e bc ba bb hop hd rfl he hcond.1 hcond.2.1 hcond.2.2 hec hea heb rfl
            · cases h
          · cases h
        · cases h
      · cases h
    · split at h
      · rename_i hbx
        cases he : evOp Γ (viewAt L0 s (keysOf (getOp (s.K.filter (okFor ops i (onL o))) g) o.op) (ancL ops i)) (getOp (s.K.filter (okFor ops i (onL o))) g) o.dst o.op with
        | none => rw [he] at h; cases h
        | some oc =>
          obtain ⟨out, cs⟩ := oc
          rw [he] at h
          simp only [Option.bind] at h
          cases out with
          | val d =>
            simp only [outD] at h
            split at h
            · rename_i t hd
              split at h
              · rename_i ht
                cases h
                exact .val d cs t hd ht he hbx rfl
              · cases h
            · cases h
          | call f args =>
            simp only [outD] at h
            split at h
            · rename_i r t hr hd
              split at h
              · rename_i hcond
                obtain ⟨ht, hna, hnr, hce⟩ := hcond
                cases h
                have hcs : cs = [] := by simpa using hce
                subst hcs
                exact .call f args r t hd ht hr hna he hbx rfl
              · cases h
            · cases h
          | box ty cells =>
            simp only [outD] at h
            split at h
            · rename_i t hd
              split at h
              · rename_i hcond
                obtain ⟨ht, htl, hfl, hce, hK, hL, hA⟩ := hcond
                cases h
                have hcs : cs = [] := by simpa using hce
                subst hcs
                exact .box ty cells t rfl hd ⟨ht, htl⟩ hfl hK hL hA he hbx rfl
              · cases h
            · cases h
          | store k off cells =>
            simp only [outD] at h
            split at h
            · rename_i hd
              split at h
              · rename_i hcond
                obtain ⟨hfl, hce, hR, hbk⟩ := hcond
                cases h
                have hcs : cs = [] := by simpa using hce
                subst hcs
                exact .store k off cells rfl hd hfl hR hbk he hbx rfl
              · cases h
            · cases h
          | upd k n z off cells => simp only [outD] at h; cases h
          | arow ty z m dd => simp only [outD] at h; cases h
          | fill k z m dd => simp only [outD] at h; cases h
          | turn k z m dd => simp only [outD] at h; cases h
          | mkmap ty kk ag => simp only [outD] at h; cases h
          | mset k kk ag key cells => simp only [outD] at h; cases h
          | mlk k kk ag key ok ez => simp only [outD] at h; cases h
          | mlen k => simp only [outD] at h; cases h
          | mdl k kk ag key => simp only [outD] at h; cases h
          | cpy k z cells n => simp only [outD] at h; cases h
          | known spec =>
            simp only [outD] at h
            split at h
            · rename_i t r hd hr
              split at h
              · rename_i hcond
                cases h
                have hcs : cs = [] := by simpa using hcond.2
                subst hcs
                exact .known spec r t hd hcond.1 he hbx rfl
              · cases h
            · cases h
          | row e m old spec =>
            simp only [outD] at h
            split at h
            · rename_i t k' k hd hr
              split at h
              · rename_i α d enc l hr2
                split at h
                · rename_i hcond
                  obtain ⟨ht, htl, hN, hQ, hK, hL, hA⟩ := hcond
                  cases h
                  exact .app e m k spec cs d enc l t rfl hd ⟨ht, htl⟩ (by simpa using hN) hQ hK hL hA he hbx rfl
                · cases h
              · cases h
            · rename_i t r hd hr
              split at h
              · rename_i ht
                cases h
                exact .fresh e m spec cs r t hd ht he hbx rfl
              · cases h
            · cases h
      · cases h
theorem StepD.ext {i : Nat} {o : Oper} {s s' : DS} {g : Cnd} {Kr : List Ent} (h : StepD C Γ nt orc ops L0 i o s s' g Kr) : ExtD i s s' := by
  have hN : (∀ n, s.N = some n → s.N = some n) ∧ (∀ n, s.N = some n → s.N = some n ∨ (s.N = none ∧ i ≤ n.i)) := ⟨fun _ h => h, fun _ h => .inl h⟩
  cases h with
  | pick c a b t tc e bc ba bb hop hd hc he hle hsrc ht hec hea heb hs =>
    subst hs
    exact ⟨⟨[_], rfl, by simp⟩, ⟨[], rfl, by simp⟩, ⟨[], rfl, by simp⟩, ⟨[], rfl, by simp⟩, hN, fun _ h => h, fun j hj => tv_cons (by omega), fun _ h => h⟩
  | val d cs t hd ht he hbx hs =>
    subst hs
    refine ⟨⟨[_], rfl, by simp⟩, ⟨[], rfl, by simp⟩, ⟨[], rfl, by simp⟩, ?_, hN, fun _ h => List.mem_append_right _ h, fun j hj => addTab_tv (by omega), fun _ h => List.mem_append_left _ h⟩
    simp only
    split
    · exact ⟨[_], rfl, by simp⟩
    · exact ⟨[], rfl, by simp⟩
  | call f args r t hd ht hr hna he hbx hs =>
    subst hs
    exact ⟨⟨[_], rfl, by simp⟩, ⟨[], rfl, by simp⟩, ⟨[], rfl, by simp⟩, ⟨[], rfl, by simp⟩, hN, fun _ h => List.mem_append_right _ h, fun j hj => addTab_tv (by omega), fun _ h => List.mem_append_left _ h⟩
  | box ty cells t hg hd ht hfl hK hL hA he hbx hs =>
    subst hs
    exact ⟨⟨[_], rfl, by simp⟩, ⟨[_], rfl, by simp⟩, ⟨[], rfl, by simp⟩, ⟨[], rfl, by simp⟩, hN, fun _ h => List.mem_append_right _ h, fun _ _ => rfl, fun _ h => h⟩
  | store k off cells hg hd hfl hR hbk he hbx hs =>
    subst hs
    exact ⟨⟨[], rfl, by simp⟩, ⟨[], rfl, by simp⟩, ⟨[_], rfl, by simp⟩, ⟨[], rfl, by simp⟩, hN, fun _ h => List.mem_append_right _ h, fun _ _ => rfl, fun _ h => h⟩
  | fresh e m spec cs r t hd ht he hbx hs =>
    subst hs
    exact ⟨⟨[_], rfl, by simp⟩, ⟨[], rfl, by simp⟩, ⟨[], rfl, by simp⟩, ⟨[], rfl, by simp⟩, hN, fun _ h => List.mem_append_right _ h, fun j hj => addTab_tv (by omega), fun _ h => List.mem_append_left _ (List.mem_append_left _ h)⟩
  | known spec r t hd ht he hbx hs =>
    subst hs
    exact ⟨⟨[_], rfl, by simp⟩, ⟨[], rfl, by simp⟩, ⟨[], rfl, by simp⟩, ⟨[], rfl, by simp⟩, hN, fun _ h => List.mem_append_right _ h, fun j hj => addTab_tv (by omega), fun _ h => List.mem_append_left _ h⟩
  | app e m k spec cs d enc l t hg hd ht hNn hQ hK hL hA he hbx hs =>
    subst hs
    refine ⟨⟨[_], rfl, by simp⟩, ⟨[], rfl, by simp⟩, ⟨[], rfl, by simp⟩, ⟨[], rfl, by simp⟩, ⟨fun n h => ?_, fun n h => ?_⟩, fun _ h => List.mem_append_right _ h, fun _ _ => rfl, fun _ h => List.mem_append_left _ (List.mem_append_left _ h)⟩
    · rw [hNn] at h; cases h
    · cases h; exact .inr ⟨hNn, Nat.le_refl _⟩
structure Trace (C : Nat → List D → D → Prop) (Γ : Nat → Option TI) (nt : Nat) (orc : List (Nat × D)) (ops : List Oper) (L0 : Boxes) (K : List (Nat × D)) (st : Nat → DS) : Prop where
  zero : st 0 = startDS K
  step : ∀ i o, ops[i]? = some o → stepD C Γ nt orc ops L0 i o (st i) = some (st (i + 1))
theorem trace_of : ∀ (l : List Oper) (i : Nat) {s s' : DS}, evOpsD C Γ nt orc ops L0 l i s = some s' → ∃ st : Nat → DS, st i = s ∧ st (i + l.length) = s' ∧ ∀ j o, l[j]? = some o → stepD C Γ nt orc ops L0 (i + j) o (st (i + j)) = some (st (i + j + 1))
  | [], i, s, s', h => by
    cases h
    exact ⟨fun _ => s, rfl, rfl, fun j o hj => by simp at hj⟩
  | o :: l, i, s, s', h => by
    unfold evOpsD at h
    split at h
    · rename_i s1 h1
      obtain ⟨st, hst0, hst1, hst2⟩ := trace_of l (i + 1) h
      refine ⟨fun k => if k = i then s else st k, by simp, ?_, fun j o' hj => ?_⟩
      · simp only [List.length_cons]
        rw [if_neg (by omega), ← hst1]
        congr 1; omega
      · cases j with
        | zero =>
          simp only [List.getElem?_cons_zero, Option.some.injEq] at hj
          subst hj
          simp only [Nat.add_zero, if_true]
          rw [if_neg (by omega), hst0]; exact h1
        | succ j =>
          have := hst2 j o' (by simpa using hj)
          show stepD C Γ nt orc ops L0 (i + (j + 1)) o' (if i + (j + 1) = i then s else st (i + (j + 1))) = some (if i + (j + 1) + 1 = i then s else st (i + (j + 1) + 1))
          rw [if_neg (by omega), if_neg (by omega)]
          rw [show i + (j + 1) = i + 1 + j by omega]; exact this
    · cases h
variable {K : List (Nat × D)} {st : Nat → DS}
theorem Trace.inv (h : Trace C Γ nt orc ops L0 K st) {i : Nat} {o : Oper} (ho : ops[i]? = some o) : ∃ g, guardCnd ops ((st i).K.filter (okFor ops i (onL o))) o.guard = some g ∧ StepD C Γ nt orc ops L0 i o (st i) (st (i + 1)) g ((st i).K.filter (okFor ops i (onL o))) :=
  stepD_inv (h.step i o ho)
theorem Trace.ext (h : Trace C Γ nt orc ops L0 K st) {i : Nat} : ∀ {j : Nat}, i ≤ j → j ≤ ops.length → ExtD i (st i) (st j) := by
  intro j hij hj
  induction j with
  | zero => have : i = 0 := by omega
            subst this; exact .refl _ _
  | succ j ih =>
    by_cases he : i = j + 1
    · subst he; exact .refl _ _
    · have hlt : j < ops.length := by omega
      obtain ⟨g, _, hs⟩ := h.inv (List.getElem?_eq_getElem hlt)
      exact (ih (by omega) (by omega)).trans (by omega) hs.ext
structure GoodD (ops : List Oper) (i : Nat) (s : DS) : Prop where
  srcs : ∀ e ∈ s.K, e.src ≤ i
  keys : ∀ e ∈ s.K, ∀ x ∈ e.cnd, x.1 + 1 < e.src
  dsts : ∀ e ∈ s.K, ∀ j, e.src = j + 1 → (ops[j]?).bind (·.dst) = some e.slot ∧ ∀ b, e.d = .val (.bool b) → tv s.tab j = b
  A : ∀ x ∈ s.A, x.1 < i
  T : ∀ x ∈ s.T, x.1 < i
  N : ∀ n, s.N = some n → n.i < i
def o_dst (ops : List Oper) (i : Nat) : Option Nat := (ops[i]?).bind (·.dst)
theorem guard_keys {Kr : List Ent} {gd : Option (Nat × Bool)} {g : Cnd} (h : guardCnd ops Kr gd = some g) (hk : ∀ e ∈ Kr, ∀ x ∈ e.cnd, x.1 + 1 < e.src) {i : Nat} (hs : ∀ e ∈ Kr, e.src ≤ i) : ∀ x ∈ g, x.1 < i := by
  unfold guardCnd at h
  split at h
  · cases h; simp
  · rename_i j want
    split at h
    · cases h
    · split at h
      · cases h
      · rename_i e he
        obtain ⟨hm, _⟩ := find_mem he
        split at h
        · rename_i hsrc
          split at h
          · cases h
            intro x hx
            have := hs e hm
            rcases List.mem_cons.1 hx with rfl | hx
            · simp only; omega
            · have := hk e hm x hx; omega
          · cases h
        · cases h
theorem Trace.good (h : Trace C Γ nt orc ops L0 K st) : ∀ i, i ≤ ops.length → GoodD ops i (st i)
  | 0, _ => by
    rw [h.zero]
    refine ⟨fun e he => ?_, fun e he x hx => ?_, fun e he j hj => ?_, fun x hx => by simp [startDS] at hx, fun x hx => by simp [startDS] at hx, fun n hn => by simp [startDS] at hn⟩
    all_goals
      obtain ⟨y, hy, rfl⟩ := List.mem_map.1 he
    · exact Nat.le_refl _
    · simp at hx
    · simp at hj
  | i + 1, hi => by
    have ih := h.good i (by omega)
    have hlt : i < ops.length := by omega
    have ho := List.getElem?_eq_getElem hlt
    obtain ⟨g, hg, hs⟩ := h.inv ho
    have hgk := guard_keys hg (fun e he => ih.keys e (List.mem_filter.1 he).1) (fun e he => ih.srcs e (List.mem_filter.1 he).1)
    have hext := hs.ext
    have hold : ∀ e ∈ (st i).K, ∀ j, e.src = j + 1 → (ops[j]?).bind (·.dst) = some e.slot ∧ ∀ b, e.d = .val (.bool b) → tv (st (i + 1)).tab j = b := by
      intro e he j hj
      obtain ⟨h1, h2⟩ := ih.dsts e he j hj
      have := ih.srcs e he
      exact ⟨h1, fun b hb => by rw [hext.tab j (by omega)]; exact h2 b hb⟩
    have hA : ∀ x ∈ (st (i + 1)).A, x.1 < i + 1 := by
      intro x hx
      cases hs with
      | box ty cells t hg hd ht hfl hK hL hA he hbx hs =>
        rw [hs] at hx
        rcases List.mem_cons.1 hx with rfl | hx
        · simp only; omega
        · have := ih.A x hx; omega
      | pick c a b t tc e bc ba bb hop hd hc he hle hsrc ht hec hea heb hs => rw [hs] at hx; have := ih.A x hx; omega
      | val d cs t hd ht he hbx hs => rw [hs] at hx; have := ih.A x hx; omega
      | call f args r t hd ht hr hna he hbx hs => rw [hs] at hx; have := ih.A x hx; omega
      | store k off cells hg hd hfl hR hbk he hbx hs => rw [hs] at hx; have := ih.A x hx; omega
      | fresh e m spec cs r t hd ht he hbx hs => rw [hs] at hx; have := ih.A x hx; omega
      | known spec r t hd ht he hbx hs => rw [hs] at hx; have := ih.A x hx; omega
      | app e m k spec cs d enc l t hg hd ht hNn hQ hK hL hA he hbx hs => rw [hs] at hx; have := ih.A x hx; omega
    have hT : ∀ x ∈ (st (i + 1)).T, x.1 < i + 1 := by
      intro x hx
      cases hs with
      | store k off cells hg hd hfl hR hbk he hbx hs =>
        rw [hs] at hx
        rcases List.mem_cons.1 hx with rfl | hx
        · simp only; omega
        · have := ih.T x hx; omega
      | pick c a b t tc e bc ba bb hop hd hc he hle hsrc ht hec hea heb hs => rw [hs] at hx; have := ih.T x hx; omega
      | val d cs t hd ht he hbx hs => rw [hs] at hx; have := ih.T x hx; omega
      | call f args r t hd ht hr hna he hbx hs => rw [hs] at hx; have := ih.T x hx; omega
      | box ty cells t hg hd ht hfl hK hL hA he hbx hs => rw [hs] at hx; have := ih.T x hx; omega
      | fresh e m spec cs r t hd ht he hbx hs => rw [hs] at hx; have := ih.T x hx; omega
      | known spec r t hd ht he hbx hs => rw [hs] at hx; have := ih.T x hx; omega
      | app e m k spec cs d enc l t hg hd ht hNn hQ hK hL hA he hbx hs => rw [hs] at hx; have := ih.T x hx; omega
    have hNN : ∀ n, (st (i + 1)).N = some n → n.i < i + 1 := by
      intro n hn
      have hold : ∀ n, (st i).N = some n → n.i < i + 1 := fun n h => by have := ih.N n h; omega
      cases hs with
      | pick c a b t tc e bc ba bb hop hd hc he hle hsrc ht hec hea heb hs => rw [hs] at hn; exact hold n hn
      | val d cs t hd ht he hbx hs => rw [hs] at hn; exact hold n hn
      | call f args r t hd ht hr hna he hbx hs => rw [hs] at hn; exact hold n hn
      | box ty cells t hg hd ht hfl hK hL hA he hbx hs => rw [hs] at hn; exact hold n hn
      | store k off cells hg hd hfl hR hbk he hbx hs => rw [hs] at hn; exact hold n hn
      | fresh e m spec cs r t hd ht he hbx hs => rw [hs] at hn; exact hold n hn
      | known spec r t hd ht he hbx hs => rw [hs] at hn; exact hold n hn
      | app e m k spec cs d enc l t hg hd ht hNn hQ hK hL hA he hbx hs => rw [hs] at hn; cases hn; exact Nat.lt_succ_self _
    have hnew : ∀ (t : Nat) (gg : Cnd) (d : D), o_dst ops i = some t → (∀ x ∈ gg, x.1 < i) → (∀ b, d = .val (.bool b) → tv (st (i + 1)).tab i = b) → (∀ e ∈ (st (i + 1)).K, e = ⟨t, i + 1, gg, d⟩ ∨ e ∈ (st i).K) → GoodD ops (i + 1) (st (i + 1)) := by
      intro t gg d hd hgg hb hmem
      refine ⟨fun e he => ?_, fun e he x hx => ?_, fun e he j hj => ?_, hA, hT, hNN⟩
      · rcases hmem e he with rfl | he
        · exact Nat.le_refl _
        · have := ih.srcs e he; omega
      · rcases hmem e he with rfl | he
        · have := hgg x hx; simp only; omega
        · exact ih.keys e he x hx
      · rcases hmem e he with rfl | he
        · simp only at hj
          have : j = i := by omega
          subst this
          exact ⟨hd, hb⟩
        · exact hold e he j hj
    have hdst : ∀ t, ops[i].dst = some t → o_dst ops i = some t := by intro t ht; unfold o_dst; rw [ho]; exact ht
    cases hs with
    | pick c a b t tc e bc ba bb hop hd hc he hle hsrc ht hec hea heb hs =>
      refine hnew t g (.val (.bool (bif bc then ba else bb))) (hdst t hd) hgk (fun b hb => ?_) (fun e he => ?_)
      · cases hb; rw [hs]; exact tv_self
      · rw [hs] at he; exact (List.mem_cons.1 he)
    | val d cs t hd ht he hbx hs =>
      refine hnew t g d (hdst t hd) hgk (fun b hb => ?_) (fun e he => ?_)
      · subst hb; rw [hs]; exact addTab_self
      · rw [hs] at he; exact (List.mem_cons.1 he)
    | call f args r t hd ht hr hna he hbx hs =>
      refine hnew t g r (hdst t hd) hgk (fun b hb => ?_) (fun e he => ?_)
      · subst hb; rw [hs]; exact addTab_self
      · rw [hs] at he; exact (List.mem_cons.1 he)
    | fresh e m spec cs r t hd ht he hbx hs =>
      refine hnew t g r (hdst t hd) hgk (fun b hb => ?_) (fun e he => ?_)
      · subst hb; rw [hs]; exact addTab_self
      · rw [hs] at he; exact (List.mem_cons.1 he)
    | known spec r t hd ht he hbx hs =>
      refine hnew t g r (hdst t hd) hgk (fun b hb => ?_) (fun e he => ?_)
      · subst hb; rw [hs]; exact addTab_self
      · rw [hs] at he; exact (List.mem_cons.1 he)
    | app e m k spec cs d enc l t hg hd ht hNn hQ hK hL hA he hbx hs =>
      refine hnew t [] (.row t) (hdst t hd) (by simp) (fun b hb => by cases hb) (fun e he => ?_)
      rw [hs] at he; exact (List.mem_cons.1 he)
    | box ty cells t hg hd ht hfl hK hL hA he hbx hs =>
      refine hnew t [] (.own t 0) (hdst t hd) (by simp) (fun b hb => by cases hb) (fun e he => ?_)
      rw [hs] at he; exact (List.mem_cons.1 he)
    | store k off cells hg hd hfl hR hbk he hbx hs =>
      refine ⟨fun e he => ?_, fun e he => ?_, fun e he => ?_, hA, hT, hNN⟩
      all_goals rw [hs] at he
      · have := ih.srcs e he; omega
      · exact ih.keys e he
      · exact hold e he
end
end Go.Proofs.YtibgdilkodjojaaGreatDoor.RX
