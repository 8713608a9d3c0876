/-
  What the printed walks lean on: loops by fuel, what is kept, the table of types, small steps of the models. Over any program.
-/
import Derived.Test.YteliiabopphgmaaRxAnyC
import Derived.Laws.StructEq
import Derived.Lib.Bytealg
import Derived.Scope
namespace Go.Proofs.Yteliiabopphgmaa.RX
open Go.RowKit

section
variable {P : Program} {Γ : Nat → Option TI} {nt : Nat} {F0 : Fz} {w0 : Pt P} {K K' : List (Nat × D)} {L L' : Boxes} {Q Q' : Exit → Act → World → Prop}

/-! ### loops -/
def Lp (P : Program) (c : Code) (Q : Exit → Act → World → Prop) (a : Act) (w : World) : Prop :=
  ∀ (b : Frame) (k : List Item) (cs : List Frame), ∃ e a' w', Q e a' w' ∧ Arrives P (lone (b.at a (.code c :: .inLoop c :: k)) cs w) b k cs e a' w'
/-- At a loop's head. -/
def WL (P : Program) (nt : Nat) (F0 : Fz) (w0 : Pt P) (K : List (Nat × D)) (L : Boxes) (c : Code) (Q : Exit → Act → World → Prop) : Prop :=
  ∀ a w, St nt F0 w0 K L a w → Lp P c Q a w
theorem Wp.loopL {c : Code} (h : WL P nt F0 w0 K L c Q) : Wp P nt F0 w0 K L (.loop c) Q := by
  intro a w hs b k cs
  obtain ⟨e, a', w', hq, harr⟩ := h a w hs b k cs
  exact ⟨e, a', w', hq, .of_steps (.one step_loop) harr⟩
theorem WL.round {c : Code} (h : Wp P nt F0 w0 K L c (Exit.then (fun a w => Lp P c Q a w) Q)) : WL P nt F0 w0 K L c Q := by
  intro a w hs b k cs
  obtain ⟨e, a₁, w₁, hq, harr⟩ := h a w hs b (.inLoop c :: k) cs
  cases e with
  | normal =>
    obtain ⟨e₂, a₂, w₂, hq₂, harr₂⟩ := hq b k cs
    exact ⟨e₂, a₂, w₂, hq₂, .of_steps (Steps.trans harr (.one step_inLoop)) harr₂⟩
  | exit id => exact ⟨_, a₁, w₁, hq, .pass (x := .inLoop c) rfl (fun _ _ => .inl (by simp)) harr⟩
  | goto l => exact ⟨_, a₁, w₁, hq, .pass (x := .inLoop c) rfl (fun _ _ => .inl (by simp)) harr⟩
  | ret => exact ⟨_, a₁, w₁, hq, .pass (x := .inLoop c) rfl (fun _ _ => .inl (by simp)) harr⟩
  | panic ch => exact ⟨_, a₁, w₁, hq, .pass (x := .inLoop c) rfl (fun _ _ => .inl (by simp)) harr⟩
  | outgrown => exact ⟨_, a₁, w₁, hq, .pass (x := .inLoop c) rfl (fun _ _ => .inl (by simp)) harr⟩
theorem To.again {c : Code} (h : WL P nt F0 w0 K L c Q) : To nt F0 w0 K L .normal (Exit.then (fun a w => Lp P c Q a w) Q) := h

/-! ### what is kept -/
def keepS : List (Nat × D) → List Nat → Option (List (Nat × D))
  | _, [] => some []
  | K, t :: ts => match K.lookup t, keepS K ts with | some d, some r => some ((t, d) :: r) | _, _ => none
theorem keepS_mem {K : List (Nat × D)} : ∀ {ts : List Nat} {r : List (Nat × D)}, keepS K ts = some r → ∀ x ∈ r, x ∈ K
  | [], r, h, x, hx => by cases h; simp at hx
  | t :: ts, r, h, x, hx => by
    unfold keepS at h
    split at h
    · rename_i d r' hd hr
      cases h
      rcases List.mem_cons.1 hx with rfl | hx
      · exact mem_of_lookup hd
      · exact keepS_mem hr x hx
    · cases h
theorem To.keep {e : Exit} {kk kl : List Nat} (hk : keepS K kk = some K') (hl : keepL L kl = some L') (h : To nt F0 w0 K' L' e Q) : To nt F0 w0 K L e Q := To.sub (keepS_mem hk) (keepL_mem hl) h
theorem Wp.keep {c : Code} {kk kl : List Nat} (hk : keepS K kk = some K') (hl : keepL L kl = some L') (h : Wp P nt F0 w0 K' L' c Q) : Wp P nt F0 w0 K L c Q := Wp.sub (keepS_mem hk) (keepL_mem hl) h

/-! ### the same said weaker: a nil slice is an empty one -/
inductive WeakK : List (Nat × D) → List (Nat × D) → Prop
  | nil : WeakK [] []
  | cons {t : Nat} {d e : D} {K K' : List (Nat × D)} (h : Weak d e) (hs : WeakK K K') : WeakK ((t, d) :: K) ((t, e) :: K')
inductive WeakB : Boxes → Boxes → Prop
  | nil : WeakB [] []
  | cons {k t : Nat} {ds es : List D} {L L' : Boxes} (h : Weaks ds es) (hs : WeakB L L') : WeakB ((k, t, ds) :: L) ((k, t, es) :: L')
theorem WeakK.mem : ∀ {K K' : List (Nat × D)}, WeakK K K' → ∀ x ∈ K', ∃ d, (x.1, d) ∈ K ∧ Weak d x.2
  | _, _, .nil, x, hx => by simp at hx
  | _, _, .cons h hs, x, hx => by
    rcases List.mem_cons.1 hx with rfl | hx
    · exact ⟨_, List.mem_cons_self, h⟩
    · obtain ⟨d, h1, h2⟩ := WeakK.mem hs x hx
      exact ⟨d, List.mem_cons_of_mem _ h1, h2⟩
theorem WeakB.mem : ∀ {L L' : Boxes}, WeakB L L' → ∀ x ∈ L', ∃ ds, (x.1, x.2.1, ds) ∈ L ∧ Weaks ds x.2.2
  | _, _, .nil, x, hx => by simp at hx
  | _, _, .cons h hs, x, hx => by
    rcases List.mem_cons.1 hx with rfl | hx
    · exact ⟨_, List.mem_cons_self, h⟩
    · obtain ⟨d, h1, h2⟩ := WeakB.mem hs x hx
      exact ⟨d, List.mem_cons_of_mem _ h1, h2⟩
theorem Base.weak {B : Env} {F : Fz} {w : World} (hL : WeakB L L') (hb : Base F0 w0 B F (memL L) w) : Base F0 w0 B F (memL L') w := by
  have hmem : ∀ k t es, (k, t, es) ∈ L' → ∃ ds, (k, t, ds) ∈ L ∧ Weaks ds es := fun k t es hm => hL.mem _ hm
  refine ⟨fun k t es hm => ?_, fun k t es b hm hbk => ?_, fun i j b hi hj => hb.inj i j b ?_ ?_, hb.frz, hb.more, hb.grow, hb.below, hb.env⟩
  · obtain ⟨ds, h1, h2⟩ := hmem _ _ _ hm
    have hh := hb.boxes _ _ _ h1
    cases hh with
    | box _ b vs h3 h4 h5 h6 h7 => exact .box _ b vs h3 (h2.rep h4) (h2.flat h5) h6 h7
    | row m d enc l p n cap h3 h4 =>
      have : es = [.rowc m d enc l] := by
        cases h2 with
        | cons h hs => cases hs; cases h; rfl
      rw [this]; exact .row m d enc l p n cap h3 h4
  · obtain ⟨ds, h1, _⟩ := hmem _ _ _ hm
    exact hb.new _ _ _ _ h1 hbk
  · obtain ⟨t, es, hm⟩ := hi
    obtain ⟨ds, h1, _⟩ := hmem _ _ _ hm
    exact ⟨_, _, h1⟩
  · obtain ⟨t, es, hm⟩ := hj
    obtain ⟨ds, h1, _⟩ := hmem _ _ _ hm
    exact ⟨_, _, h1⟩
theorem callsB_args {f : Nat} {ds es : List D} {r : D} {Lin Lin' Lout : Boxes} (hw : Weaks ds es) (hL : WeakB Lin Lin') (h : CallsB P f es Lin' r Lout) : CallsB P f ds Lin r Lout :=
  ⟨h.1, fun F w1 B args hb hr => h.2 F w1 B args (hb.weak hL) (hw.rep hr)⟩
theorem St.weak {a : Act} {w : World} (hK : WeakK K K') (hL : WeakB L L') (h : St nt F0 w0 K L a w) : St nt F0 w0 K' L' a w := by
  obtain ⟨B, F, hb, hd, hs, hk⟩ := h
  have hmem : ∀ k t es, (k, t, es) ∈ L' → ∃ ds, (k, t, ds) ∈ L ∧ Weaks ds es := fun k t es hm => hL.mem _ hm
  refine ⟨B, F, ⟨fun k t es hm => ?_, fun k t es b hm hbk => ?_, fun i j b hi hj => hb.inj i j b ?_ ?_, hb.frz, hb.more, hb.grow, hb.below, hb.env⟩, hd, hs, fun x hx => ?_⟩
  · obtain ⟨ds, h1, h2⟩ := hmem _ _ _ hm
    have hh := hb.boxes _ _ _ h1
    cases hh with
    | box _ b vs h3 h4 h5 h6 h7 => exact .box _ b vs h3 (h2.rep h4) (h2.flat h5) h6 h7
    | row m d enc l p n cap h3 h4 =>
      have : es = [.rowc m d enc l] := by
        cases h2 with
        | cons h hs => cases hs; cases h; rfl
      rw [this]; exact .row m d enc l p n cap h3 h4
  · obtain ⟨ds, h1, _⟩ := hmem _ _ _ hm
    exact hb.new _ _ _ _ h1 hbk
  · obtain ⟨t, es, hm⟩ := hi
    obtain ⟨ds, h1, _⟩ := hmem _ _ _ hm
    exact ⟨_, _, h1⟩
  · obtain ⟨t, es, hm⟩ := hj
    obtain ⟨ds, h1, _⟩ := hmem _ _ _ hm
    exact ⟨_, _, h1⟩
  · obtain ⟨d, h1, h2⟩ := hK.mem _ hx
    obtain ⟨v, h3, h4⟩ := hk _ h1
    exact ⟨v, h3, h2.rep h4⟩
theorem To.weak {e : Exit} (hK : WeakK K K') (hL : WeakB L L') (h : To nt F0 w0 K' L' e Q) : To nt F0 w0 K L e Q := fun a w hs => h a w (hs.weak hK hL)
theorem Wp.weak {c : Code} (hK : WeakK K K') (hL : WeakB L L') (h : Wp P nt F0 w0 K' L' c Q) : Wp P nt F0 w0 K L c Q := fun a w hs => h a w (hs.weak hK hL)

/-! ### steps that the code does not take -/
theorem Wp.pre {c : Code} (h : ∀ a w, St nt F0 w0 K L a w → St nt F0 w0 K' L' a w) (hc : Wp P nt F0 w0 K' L' c Q) : Wp P nt F0 w0 K L c Q := fun a w hs => hc a w (h a w hs)
theorem To.pre {e : Exit} (h : ∀ a w, St nt F0 w0 K L a w → St nt F0 w0 K' L' a w) (hc : To nt F0 w0 K' L' e Q) : To nt F0 w0 K L e Q := fun a w hs => hc a w (h a w hs)
/-- Rows or boxes are for good from here on. -/
def settleKL (ks : List Nat) (K : List (Nat × D)) (L : Boxes) (kk kl : List Nat) : Option (List (Nat × D) × Boxes) :=
  match keepK (ks.foldl settle (startES K L)).K kk, keepL (ks.foldl settle (startES K L)).L kl with
  | some K', some L' => some (K', L')
  | _, _ => none
theorem St.settle {ks kk kl : List Nat} (h : settleKL ks K L kk kl = some (K', L')) : ∀ a w, St nt F0 w0 K L a w → St nt F0 w0 K' L' a w := by
  rintro a w ⟨B, F, hb, hd, hs, hK⟩
  unfold settleKL at h
  split at h
  · rename_i K1 L1 hk hl
    cases h
    have key : ∀ (ks : List Nat) (s : ES) (F : Fz), InvR nt [] F0 w0 B F s (fun j => j < 0) a w → ∃ F', InvR nt [] F0 w0 B F' (ks.foldl RX.settle s) (fun j => j < 0) a w := by
      intro ks
      induction ks with
      | nil => intro s F h; exact ⟨F, h⟩
      | cons k ks ih =>
        intro s F h
        obtain ⟨F', h'⟩ := h.settle k
        exact ih _ F' h'
    obtain ⟨F', h'⟩ := key ks _ F (start_inv hb hd hs hK)
    exact end_inv h' hk hl
  · cases h
def freshKey (k : Nat) (K : List (Nat × D)) (L : Boxes) : Bool := (K.all fun x => !(D.names k x.2)) && L.all fun x => !(x.1 == k) && !(D.namess k x.2.2)
def vacK (t k : Nat) : List (Nat × D) → Option (List (Nat × D))
  | [] => some []
  | (s, d) :: r =>
    match vacK t k r with
    | some r' => if s = t then (match d with | .val (.slice none 0 0) => some ((s, .row k) :: r') | _ => none) else some ((s, d) :: r')
    | none => none
theorem vacK_mem {t k : Nat} : ∀ {K K' : List (Nat × D)}, vacK t k K = some K' → ∀ x ∈ K', x ∈ K ∨ ((t, .val (.slice none 0 0)) ∈ K ∧ x = (t, .row k))
  | [], K', h, x, hx => by cases h; simp at hx
  | (s, d) :: r, K', h, x, hx => by
    unfold vacK at h
    split at h
    · rename_i r' hr
      have ih := vacK_mem hr
      split at h
      · rename_i hst
        subst hst
        split at h
        · cases h
          rcases List.mem_cons.1 hx with rfl | hx
          · exact .inr ⟨List.mem_cons_self, rfl⟩
          · rcases ih x hx with h | ⟨h, h'⟩
            · exact .inl (List.mem_cons_of_mem _ h)
            · exact .inr ⟨List.mem_cons_of_mem _ h, h'⟩
        · cases h
      · cases h
        rcases List.mem_cons.1 hx with rfl | hx
        · exact .inl List.mem_cons_self
        · rcases ih x hx with h | ⟨h, h'⟩
          · exact .inl (List.mem_cons_of_mem _ h)
          · exact .inr ⟨List.mem_cons_of_mem _ h, h'⟩
    · cases h
/-- A nil slice is a row that holds nothing. -/
theorem St.vacant {t k e : Nat} {α : Type} {d : α} {enc : α → List D} (hg : GoodR (.recs d enc [])) (hlt : k < 1000000) (hf : freshKey k K L = true) (hv : vacK t k K = some K') : ∀ a w, St nt F0 w0 K L a w → St nt F0 w0 K' ((k, e, [.rowc false d enc []]) :: L) a w := by
  rintro a w ⟨B, F, hb, hd, hs, hK⟩
  simp only [freshKey, Bool.and_eq_true] at hf
  have hfK : ∀ x ∈ K, D.names k x.2 = false := fun x hx => by simpa using List.all_eq_true.1 hf.1 x hx
  have hfL : ∀ x ∈ L, x.1 ≠ k ∧ D.namess k x.2.2 = false := fun x hx => by simpa using List.all_eq_true.1 hf.2 x hx
  have hB' : setB B k (.row none 0 0) k = some (.row none 0 0) := setB_self _ _ _
  have hbase := hb.newKey (t := k) (ty := e) (ds := [.rowc false d enc []]) (F' := F) (w' := w) (B' := setB B k (.row none 0 0)) (M' := memL L) (Grow.refl _ _)
    (.row false d enc [] none 0 0 hB' ⟨rfl, hg.1, hg.2, [], .nil, ⟨by simp, .inl ⟨rfl, rfl, rfl⟩⟩, fun b hb => by cases hb⟩) (fun b hbk => by rw [blkOf_row hB'] at hbk; cases hbk)
    (fun j t' ds hm => ⟨hm, (hfL _ hm).1, setB_ne _ _ _ _ (hfL _ hm).1, fun F w vs hr => hr.rebox k (setB_ne _ _ _) (hfL _ hm).2⟩) (fun b _ => ⟨rfl, fun _ h => h⟩) hb.frz (fun g j h => .inl h) (BelowS.refl _ _ _) (fun q hq => setB_ne _ _ _ _ (by unfold LIM at hq; omega))
  refine ⟨_, F, hbase.sub fun j t' ds hm => ?_, hd, hs, fun x hx => ?_⟩
  · rcases List.mem_cons.1 hm with hm | hm
    · cases hm; exact .inl ⟨rfl, rfl, rfl⟩
    · exact .inr hm
  · rcases vacK_mem hv x hx with h | ⟨h, rfl⟩
    · obtain ⟨v, h1, h2⟩ := hK x h
      exact ⟨v, h1, h2.rebox k (setB_ne _ _ _) (hfK x h)⟩
    · obtain ⟨v, h1, h2⟩ := hK _ h
      cases h2
      exact ⟨_, h1, .row k none 0 0 hB'⟩
/-- Another name for a box or a row. -/
def renL (k k' : Nat) (L : Boxes) : Boxes := L.map fun x => (bif x.1 == k then k' else x.1, x.2.1, D.subs (rename k k') x.2.2)
def renK (k k' : Nat) (K : List (Nat × D)) : List (Nat × D) := K.map fun x => (x.1, x.2.sub (rename k k'))
theorem rename_ok {F : Fz} {w : World} {B : Env} {k k' : Nat} : SubOK F w (fun i => if i = k' then B k else B i) (fun i => if i = k' then B k else B i) (rename k k') := by
  refine ⟨fun d r v h hv => ?_, fun _ _ _ => rfl, fun _ _ => rfl, fun _ _ _ _ _ => rfl⟩
  cases d <;> simp only [rename] at h <;> first | (cases h; done) | skip
  · rename_i j off
    split at h
    · rename_i hjk; subst hjk; cases h
      cases hv with
      | own _ _ b hB =>
        refine .own _ _ b ?_
        simp only at hB ⊢
        simp only [if_true]
        split at hB <;> exact hB
    · cases h
  · rename_i j
    split at h
    · rename_i hjk; subst hjk; cases h
      cases hv with
      | row _ p n cap hB =>
        refine .row _ p n cap ?_
        simp only at hB ⊢
        simp only [if_true]
        split at hB <;> exact hB
      | rowNil _ q hB =>
        refine .rowNil _ q ?_
        simp only at hB ⊢
        simp only [if_true]
        split at hB <;> exact hB
    · cases h
  · rename_i j i z off
    split at h
    · rename_i hjk; subst hjk; cases h
      cases hv with
      | elm _ _ _ _ b nn cap hB =>
        refine .elm _ _ _ _ b nn cap ?_
        simp only at hB ⊢
        simp only [if_true]
        split at hB <;> exact hB
    · cases h
theorem rename_flat {k k' : Nat} : ∀ d r, rename k k' d = some r → r.flat = true := by
  intro d r h
  cases d <;> simp only [rename] at h <;> first | (cases h; done) | (split at h <;> cases h <;> rfl)
theorem St.rename (k k' : Nat) (hlt : k' < 1000000) (hf : freshKey k' K L = true) (hK' : renK k k' K = K') (hL' : renL k k' L = L') : ∀ a w, St nt F0 w0 K L a w → St nt F0 w0 K' L' a w := by
  rintro a w ⟨B, F, hb, hd, hs, hK⟩
  subst hK'; subst hL'
  simp only [freshKey, Bool.and_eq_true] at hf
  have hfK : ∀ x ∈ K, D.names k' x.2 = false := fun x hx => by simpa using List.all_eq_true.1 hf.1 x hx
  have hfL : ∀ x ∈ L, x.1 ≠ k' ∧ D.namess k' x.2.2 = false := fun x hx => by simpa using List.all_eq_true.1 hf.2 x hx
  have hne : ∀ i, i ≠ k' → (fun i => if i = k' then B k else B i) i = B i := fun i hi => by simp [hi]
  have hkey : ∀ j t es, (j, t, es) ∈ renL k k' L → ∃ i ds, (i, t, ds) ∈ L ∧ es = D.subs (rename k k') ds ∧ (if j = k' then B k else B j) = B i ∧ (i = k → j = k') ∧ (i ≠ k → j = i) := by
    intro j t es hm
    obtain ⟨x, hx, he⟩ := List.mem_map.1 hm
    obtain ⟨i, t', ds⟩ := x
    simp only [Prod.mk.injEq] at he
    obtain ⟨h1, h2, h3⟩ := he
    subst h2
    refine ⟨i, ds, hx, h3.symm, ?_, fun e => ?_, fun e => ?_⟩
    · by_cases hik : i = k
      · subst hik; simp at h1; subst h1; simp
      · have : (i == k) = false := by simpa using hik
        rw [this] at h1; simp at h1; subst h1
        rw [if_neg (hfL _ hx).1]
    · subst e; simp at h1; exact h1.symm
    · have : (i == k) = false := by simpa using e
      rw [this] at h1; simpa using h1.symm
  refine ⟨fun i => if i = k' then B k else B i, F, ⟨fun j t es hm => ?_, fun j t es b hm hbk => ?_, fun i j b hi hj hBi hBj => ?_, hb.frz, hb.more, hb.grow, hb.below, fun q b h => ?_⟩, hd, hs, fun x hx => ?_⟩
  · obtain ⟨i, ds, h1, rfl, h3, _⟩ := hkey _ _ _ hm
    have hh := hb.boxes _ _ _ h1
    cases hh with
    | box _ b vs h4 h5 h6 h7 h8 => exact .box _ b vs (by rw [h3]; exact h4) ((h5.rebox k' hne (hfL _ h1).2).sub rename_ok) (subs_flat rename_flat h6) h7 h8
    | row m d enc l p n cap h4 h5 => exact .row m d enc l p n cap (by rw [h3]; exact h4) h5
  · obtain ⟨i, ds, h1, rfl, h3, _⟩ := hkey _ _ _ hm
    refine hb.new _ _ _ b h1 ?_
    simpa [blkOf, h3] using hbk
  · obtain ⟨t1, e1, h1⟩ := hi; obtain ⟨t2, e2, h2⟩ := hj
    obtain ⟨i', ds1, h3, _, h4, h5, h6⟩ := hkey _ _ _ h1
    obtain ⟨j', ds2, h3', _, h4', h5', h6'⟩ := hkey _ _ _ h2
    have := hb.inj i' j' b ⟨_, _, h3⟩ ⟨_, _, h3'⟩ (by simpa [blkOf, h4] using hBi) (by simpa [blkOf, h4'] using hBj)
    subst this
    by_cases hik : i' = k
    · rw [h5 hik, h5' hik]
    · rw [h6 hik, h6' hik]
  · have := w0.low q (by rw [h]; exact fun e => by cases e)
    have hq : q ≠ k' := by unfold LIM at this; omega
    simp only [hq, if_false]
    exact hb.env q b h
  · obtain ⟨y, hy, rfl⟩ := List.mem_map.1 hx
    obtain ⟨v, h1, h2⟩ := hK y hy
    exact ⟨v, h1, (h2.rebox k' hne (hfK y hy)).sub rename_ok⟩
/-- Frozen rows read as what they hold, in some slots. -/
def sealKs (ss : List Nat) (L : Boxes) (K : List (Nat × D)) : List (Nat × D) := K.map fun x => bif ss.contains x.1 then (x.1, x.2.shut L) else x
theorem St.sealK (ss : List Nat) (h : sealKs ss L K = K') : ∀ a w, St nt F0 w0 K L a w → St nt F0 w0 K' L a w := by
  rintro a w ⟨B, F, hb, hd, hs, hK⟩
  subst h
  refine ⟨B, F, hb, hd, hs, fun x hx => ?_⟩
  obtain ⟨y, hy, rfl⟩ := List.mem_map.1 hx
  obtain ⟨v, h1, h2⟩ := hK y hy
  cases hc : ss.contains y.1 with
  | false => exact ⟨v, by simpa [hc] using h1, by simpa [hc] using h2⟩
  | true => exact ⟨v, by simpa [hc] using h1, by simpa [hc] using h2.sealed hb (fun _ _ _ _ _ _ _ h => mem_of_lookup h)⟩

/-- The same in some boxes. -/
def sealLs (bs : List Nat) (L : Boxes) : Boxes := L.map fun x => bif bs.contains x.1 then (x.1, x.2.1, D.seals L x.2.2) else x
theorem sealS_flat {L : Boxes} : ∀ d r, sealS L d = some r → r.flat = true := by
  intro d r h
  cases d <;> simp only [sealS] at h <;> first | (cases h; done) | (split at h <;> cases h <;> rfl)
theorem St.sealB (bs : List Nat) (h : sealLs bs L = L') : ∀ a w, St nt F0 w0 K L a w → St nt F0 w0 K L' a w := by
  rintro a w ⟨B, F, hb, hd, hs, hK⟩
  subst h
  have hL : RowsIn (memL L) L := fun _ _ _ _ _ _ _ h => mem_of_lookup h
  have hmem : ∀ k t es, (k, t, es) ∈ sealLs bs L → ∃ ds, (k, t, ds) ∈ L ∧ (es = ds ∨ es = D.seals L ds) := by
    intro k t es hm
    obtain ⟨x, hx, he⟩ := List.mem_map.1 hm
    obtain ⟨k', t', ds⟩ := x
    cases hc : bs.contains k' with
    | false => simp only [hc, cond_false] at he; cases he; exact ⟨_, hx, .inl rfl⟩
    | true => simp only [hc, cond_true] at he; cases he; exact ⟨_, hx, .inr rfl⟩
  refine ⟨B, F, ⟨fun k t es hm => ?_, fun k t es b hm hbk => ?_, fun i j b hi hj => hb.inj i j b ?_ ?_, hb.frz, hb.more, hb.grow, hb.below, hb.env⟩, hd, hs, hK⟩
  · obtain ⟨ds, h1, h2⟩ := hmem _ _ _ hm
    have hh := hb.boxes _ _ _ h1
    rcases h2 with rfl | rfl
    · exact hh
    · cases hh with
      | box _ b vs h3 h4 h5 h6 h7 => exact .box _ b vs h3 (h4.sealed hb hL) (subs_flat sealS_flat h5) h6 h7
      | row m d enc l p n cap h3 h4 => exact .row m d enc l p n cap h3 h4
  · obtain ⟨ds, h1, _⟩ := hmem _ _ _ hm
    exact hb.new _ _ _ _ h1 hbk
  · obtain ⟨t, es, hm⟩ := hi
    obtain ⟨ds, h1, _⟩ := hmem _ _ _ hm
    exact ⟨_, _, h1⟩
  · obtain ⟨t, es, hm⟩ := hj
    obtain ⟨ds, h1, _⟩ := hmem _ _ _ hm
    exact ⟨_, _, h1⟩
/-- A box, an array, as a row from here on. -/
def subKK (s : D → Option D) (K : List (Nat × D)) : List (Nat × D) := K.map fun x => (x.1, x.2.sub s)
theorem St.toRow (k z m : Nat) {t : Nat} {α : Type} {d : α} {enc : α → List D} {l : List α} (hkl : k < 1000000) (hm : m ≤ 1000000) (hg : GoodR (.recs d enc l)) (hlen : l.length = m) (hz : (enc d).length = z) (hl : L.lookup k = some (t, l.flatMap enc)) (hno : D.noOwns (l.flatMap enc) = true)
    (hK' : subKK (toElm k z) K = K') (hL' : setRow k t (.rowc false d enc l) (subL (toElm k z) (L.filter fun x => !(x.1 == k))) = L') : ∀ a w, St nt F0 w0 K L a w → St nt F0 w0 K' L' a w := by
  rintro a w ⟨B, F, hb, hd, hs, hK⟩
  subst hK'; subst hL'
  have hk := mem_of_lookup hl
  have hh := hb.boxes _ _ _ hk
  generalize hds : l.flatMap enc = ds at hh
  cases hh with
  | row m' d' enc' l' p n cap hB h =>
    have := good_flat hg
    rw [hds] at this
    simp [D.flat] at this
  | box _ b vs hB hr hfl hheap hnf =>
    have hu : RepL F w NB (l.flatMap enc) vs := by rw [hds]; exact hr.bare (by rw [← hds]; exact hno)
    obtain ⟨h1, h2, h3⟩ := Base.toRow hb hk hkl hB hheap hnf hu hg hlen hz (by simp only [maxLen]; omega)
    rw [setRow_self w b _ _ _ hheap] at h1 h2 h3
    refine ⟨_, F, h1.sub fun j t' es hm => ?_, hd, hs, fun x hx => ?_⟩
    · unfold memL setRow at hm
      rcases List.mem_cons.1 hm with hm | hm
      · cases hm; exact .inl ⟨rfl, rfl, rfl⟩
      · obtain ⟨h4, h5⟩ := List.mem_filter.1 hm
        unfold subL at h4
        obtain ⟨y, h6, h7⟩ := List.mem_map.1 h4
        obtain ⟨h8, h9⟩ := List.mem_filter.1 h6
        cases h7
        exact .inr ⟨by simpa using h5, _, h8, rfl⟩
    · obtain ⟨y, hy, rfl⟩ := List.mem_map.1 hx
      obtain ⟨v, h4, h5⟩ := hK y hy
      exact ⟨v, h4, h5.sub h3⟩
theorem Wp.condT {x y : Code} (h : Wp P nt F0 w0 K L x Q) : Wp P nt F0 w0 K L (.cond (.const (.bool true)) x y) Q := fun a w hs => wp_cond_split (show a.eval (.const (.bool true)) = .bool true from rfl) (fun _ => h a w hs) (fun e => by cases e)
theorem Wp.condF {x y : Code} (h : Wp P nt F0 w0 K L y Q) : Wp P nt F0 w0 K L (.cond (.const (.bool false)) x y) Q := fun a w hs => wp_cond_split (show a.eval (.const (.bool false)) = .bool false from rfl) (fun e => by cases e) (fun _ => h a w hs)
theorem Wp.scope {c : Code} (h : Wp P nt F0 w0 K L c (Exit.noGoto Q)) : Wp P nt F0 w0 K L (.scope c) Q := fun a w hs => wp_scope_straight (h a w hs)
theorem To.scope {e : Exit} (he : e = .normal ∨ e = .ret ∨ ∃ id, e = .exit id) (h : To nt F0 w0 K L e Q) : To nt F0 w0 K L e (Exit.noGoto Q) := by
  rcases he with rfl | rfl | ⟨id, rfl⟩ <;> exact h

/-! ### what is owed -/
/-- Bytes: the cells of a list of bytes. -/
def e8 : UInt8 → List D := fun b => [.val (.int .u8 (b.toNat : Int))]
theorem good8 (l : List UInt8) : GoodR (.recs 0 e8 l) := ⟨Nat.zero_lt_one, fun _ => ⟨rfl, rfl⟩⟩
theorem flat8 : ∀ l : List UInt8, l.flatMap e8 = l.map fun b => .val (.int .u8 (b.toNat : Int))
  | [] => rfl
  | b :: l => by simp [e8, flat8 l]
theorem u8_of {n : Int} (h : (decide (0 ≤ n ∧ n < 256)) = true) : ((UInt8.ofNat n.toNat).toNat : Int) = n := by
  have := of_decide_eq_true h
  simp only [UInt8.toNat_ofNat']
  omega
theorem upd8 {l : List UInt8} {n c : Int} {x : UInt8} (h : (x.toNat : Int) = c) : UpdOb 0 e8 l n 0 [.val (.int .u8 c)] (.recs 0 e8 (l.set n.toNat x)) := ⟨x, .of_eq (by simp [e8, setCells, h]), rfl⟩
inductive All8 : List UInt8 → List Int → Prop
  | nil : All8 [] []
  | cons {b : UInt8} {n : Int} {l : List UInt8} {ns : List Int} (h : (b.toNat : Int) = n) (hs : All8 l ns) : All8 (b :: l) (n :: ns)
theorem All8.cells : ∀ {l : List UInt8} {ns : List Int}, All8 l ns → l.flatMap e8 = ns.map fun n => .val (.int .u8 n)
  | _, _, .nil => rfl
  | _, _, .cons h hs => by simp only [List.flatMap_cons, e8, h, All8.cells hs, List.map_cons]; rfl
theorem All8.len : ∀ {l : List UInt8} {ns : List Int}, All8 l ns → l.length = ns.length
  | _, _, .nil => rfl
  | _, _, .cons _ hs => by simp [All8.len hs]
theorem AllP.nil : AllP [] := trivial
theorem AllP.cons {p : Prop} {l : List Prop} (h : p) (hs : AllP l) : AllP (p :: l) := by
  cases l with
  | nil => exact h
  | cons q l => exact ⟨h, hs⟩
theorem callsX_args {f : Nat} {ds es : List D} {r : D} (hw : Weaks ds es) (h : CallsX P f es r) : CallsX P f ds r := ⟨h.1, fun F w args hs hF hr => h.2 F w args hs hF (hw.rep hr)⟩
theorem cx {f : Nat} {ds : List D} {r : D} (h : CallsX P f ds r) : CX P f ds r := .inl h
theorem ext_indexByteString {f : Nat} {fn : Func} {l : List UInt8} {c : Int} (hf : P.funcs[f]? = some fn) (hname : (fn.name == "runtime.NumGoroutine") = false) (hb : fn.body.isNone = true) (hn : Extern.findNext fn = none)
    (he : Extern.find fn = some Extern.BytealgIndexByte.indexByte) : CX P f [.str l, .val (.int .u8 c)] (.val (.int .i64 (Lib.indexByte l c.toNat.toUInt8))) := by
  refine .inr fun F w B args h => ?_
  cases h with
  | cons _ v _ vs h1 h2 =>
    cases h2 with
    | cons _ v' _ vs' h3 h4 =>
      cases h4; cases h1; cases h3
      refine ⟨.int .i64 (Lib.indexByte l c.toNat.toUInt8), ?_, .val _ rfl⟩
      rw [run_callFunc_extern hf hname hb hn he]
      have := Lib.run_indexByteString (P := P) ⟨l.toArray⟩ c w
      simp only [List.toArray] at this ⊢
      rw [this]
      rfl
theorem callsX_eq {f : Nat} {ds : List D} {r r' : D} (h : CallsX P f ds r) (e : r = r') : CallsX P f ds r' := e ▸ h

theorem weaks_eq {as ds es bs : List D} (h1 : as = ds) (h : Weaks ds es) (h2 : es = bs) : Weaks as bs := by subst h1; subst h2; exact h
theorem mkObW {α : Type} {d : α} {enc : α → List D} {l : List α} {z n : Nat} {cs : List D} (h1 : Weaks cs (l.flatMap enc)) (h2 : l.length = n) (h3 : (enc d).length = z) (hg : GoodR (.recs d enc l)) : MkOb z cs n (.recs d enc l) ∧ GoodR (.recs d enc l) := ⟨⟨α, d, enc, l, h1, h2, h3, rfl⟩, hg⟩
theorem mkOb {α : Type} {d : α} {enc : α → List D} {l : List α} {z n : Nat} {cs : List D} (h1 : l.flatMap enc = cs) (h2 : l.length = n) (h3 : (enc d).length = z) (hg : GoodR (.recs d enc l)) : MkOb z cs n (.recs d enc l) ∧ GoodR (.recs d enc l) := ⟨⟨α, d, enc, l, .of_eq h1.symm, h2, h3, rfl⟩, hg⟩
theorem appOb {α : Type} {d : α} {enc : α → List D} {l xs : List α} {n : Nat} {cs : List D} (h1 : xs.flatMap enc = cs) (h2 : xs.length = n) (hg : GoodR (.recs d enc (l ++ xs))) : AppOb d enc l cs n (.recs d enc (l ++ xs)) ∧ GoodR (.recs d enc (l ++ xs)) := ⟨⟨xs, .of_eq h1.symm, h2, rfl⟩, hg⟩
theorem madeOb {α : Type} {d : α} {enc : α → List D} {n : Nat} {cs : List D} (h1 : enc d = cs) (hg : GoodR (.recs d enc (List.replicate n d))) : MadeOb cs n (.recs d enc (List.replicate n d)) ∧ GoodR (.recs d enc (List.replicate n d)) := ⟨⟨α, d, enc, .of_eq h1.symm, rfl⟩, hg⟩
theorem strOb {s : List UInt8} {cs : List D} (h : cs = s.map fun b => .val (.int .u8 b.toNat)) : StrOb cs (.str s) := ⟨s, h, rfl⟩
theorem updOb {α : Type} {d : α} {enc : α → List D} {l : List α} {n : Int} {off : Nat} {cells : List D} {x : α} (h : enc x = setCells (enc (l[n.toNat]?.getD d)) off cells) : UpdOb d enc l n off cells (.recs d enc (l.set n.toNat x)) := ⟨x, .of_eq h.symm, rfl⟩
theorem updObW {α : Type} {d : α} {enc : α → List D} {l : List α} {n : Int} {off : Nat} {cells : List D} {x : α} (h : Weaks (setCells (enc (l[n.toNat]?.getD d)) off cells) (enc x)) : UpdOb d enc l n off cells (.recs d enc (l.set n.toNat x)) := ⟨x, h, rfl⟩
theorem madeObW {α : Type} {d : α} {enc : α → List D} {n : Nat} {cs : List D} (h1 : Weaks cs (enc d)) (hg : GoodR (.recs d enc (List.replicate n d))) : MadeOb cs n (.recs d enc (List.replicate n d)) ∧ GoodR (.recs d enc (List.replicate n d)) := ⟨⟨α, d, enc, h1, rfl⟩, hg⟩

/-! ### steps of the models -/
theorem if_t {c : Bool} {α : Type _} {x y : α} {r : α} (hc : c = true) (h : (if c = true then x else y) = r) : x = r := by rwa [if_pos hc] at h
theorem if_f {c : Bool} {α : Type _} {x y : α} {r : α} (hc : c = false) (h : (if c = true then x else y) = r) : y = r := by rwa [if_neg (by simp [hc])] at h
theorem chk_of {c : Bool} {α : Type _} {x : Option α} {r : α} (h : (if c = true then x else none) = some r) : c = true ∧ x = some r := by
  by_cases hc : c = true
  · exact ⟨hc, if_t hc h⟩
  · rw [if_neg hc] at h; cases h
theorem bind_of {α β : Type _} {x : Option α} {f : α → Option β} {r : β} (h : x.bind f = some r) : ∃ y, x = some y ∧ f y = some r := Option.bind_eq_some_iff.1 h

def lett {α β : Type _} (a : α) (f : α → β) : β := f a
theorem lett_of {α β : Type _} {a : α} {f : α → β} {r : β} (h : lett a f = r) : ∃ x, a = x ∧ f x = r := ⟨a, rfl, h⟩
theorem sum_l {α β γ : Type _} {f : α → γ} {g : β → γ} {a : α} {r : γ} (h : Sum.elim f g (.inl a) = r) : f a = r := h
theorem sum_r {α β γ : Type _} {f : α → γ} {g : β → γ} {b : β} {r : γ} (h : Sum.elim f g (.inr b) = r) : g b = r := h

/-! ### the table of types -/
def isAggT (P : Program) (t : Nat) : Bool := match P.underlying t with | some d => aggDesc d | none => false
def tabΓ (tab : List (Nat × TI)) : Nat → Option TI := fun t => tab.lookup t
def TabOK (P : Program) : List (Nat × TI) → Prop
  | [] => True
  | x :: l => (tiOf P x.1 = some { x.2 with eqs := [] } ∧ (x.2.eqs ≠ [] → EqCells P x.1 x.2.eqs)) ∧ TabOK P l
theorem TabOK.mem : ∀ {l : List (Nat × TI)}, TabOK P l → ∀ x ∈ l, tiOf P x.1 = some { x.2 with eqs := [] } ∧ (x.2.eqs ≠ [] → EqCells P x.1 x.2.eqs)
  | [], _, x, hx => by simp at hx
  | y :: l, h, x, hx => by
    rcases List.mem_cons.1 hx with rfl | hx
    · exact h.1
    · exact TabOK.mem h.2 x hx
def eqKind (P : Program) (t : Nat) : Option Nat := match P.underlying t with | some (.int _) => some 0 | some .bool => some 1 | some .string => some 2 | _ => none
def eqFieldsAt (P : Program) : Nat → List Field → List Nat → Bool
  | _, [], [] => true
  | i, f :: fs, k :: ks => f.offset == i && f.name != "_" && eqKind P f.type == some k && eqFieldsAt P (i + 1) fs ks
  | _, _, _ => false
def eqTypes (P : Program) (t : Nat) (ks : List Nat) : Bool := (match P.underlying t with | some (.struct fs) => eqFieldsAt P 0 fs.toList ks | _ => false) && !(P.stoodInHeld t) && !(P.eqGuardType P.depth t)
theorem cmpCells_cons {k : Nat} {a b : D} {ks : List Nat} {as bs : List D} {r : Bool} (h : cmpCells (k :: ks) (a :: as) (b :: bs) = some r) : ∃ x y, cmpCell k a b = some x ∧ cmpCells ks as bs = some y ∧ r = (x && y) := by
  unfold cmpCells at h
  split at h
  · rename_i h1 h2 h3; cases h1
  · rename_i h1 h2 h3; cases h1; cases h2; cases h3
    exact ⟨r, true, h, rfl, by simp⟩
  · rename_i h1 h2 h3; cases h1; cases h2; cases h3
    split at h
    · rename_i x y hx hy; cases h; exact ⟨x, y, hx, hy, rfl⟩
    · cases h
  · cases h
theorem cmpCells_len : ∀ {ks : List Nat} {as bs : List D} {r : Bool}, cmpCells ks as bs = some r → as.length = ks.length ∧ bs.length = ks.length
  | [], [], [], _, _ => ⟨rfl, rfl⟩
  | [], [], _ :: _, _, h => by simp [cmpCells] at h
  | [], _ :: _, _, _, h => by simp [cmpCells] at h
  | _ :: _, [], _, _, h => by simp [cmpCells] at h
  | _ :: _, _ :: _, [], _, h => by simp [cmpCells] at h
  | k :: ks, a :: as, b :: bs, r, h => by
    obtain ⟨x, y, _, h2, _⟩ := cmpCells_cons h
    have := cmpCells_len h2
    simp [this.1, this.2]
theorem run_cmpCell {F F' w B B'} {k t : Nat} {d e : D} {v u : Value} {x : Bool} (hk : eqKind P t = some k) (hd : Rep F w B d v) (he : Rep F' w B' e u) (hc : cmpCell k d e = some x) (n : Nat) (w' : World) : (Op.equalIn (n + 1) t v u).run P w' = .ok x w' ∧ isAggT P t = false := by
  unfold eqKind at hk
  unfold cmpCell at hc
  split at hc
  · split at hk <;> cases hk
    rename_i hu
    split at hc
    · rename_i hkk; subst hkk; cases hc; cases hd; cases he; exact ⟨run_equalIn_int w' n t _ _ _ _ hu, by simp [isAggT, hu, aggDesc]⟩
    · cases hc
  · split at hk <;> cases hk
    rename_i hu
    cases hc; cases hd; cases he; exact ⟨run_equalIn_bool' w' n t _ _ hu, by simp [isAggT, hu, aggDesc]⟩
  · split at hk <;> cases hk
    rename_i hu
    cases hc; cases hd; cases he
    refine ⟨?_, by simp [isAggT, hu, aggDesc]⟩
    rw [run_equalIn_string w' n t _ _ hu]
    simp [ByteArray.toList_eq]
  · cases hc
theorem run_eqFields {F F' w B B'} (n : Nat) (w' : World) : ∀ (fs : List Field) (ks : List Nat) (i : Nat) (ds es : List D) (vs us : List Value) (r : Bool), eqFieldsAt P i fs ks = true → RepL F w B ds vs → RepL F' w B' es us →
    cmpCells ks (ds.drop i) (es.drop i) = some r → (Op.eqFields (n + 1) vs.toArray us.toArray fs).run P w' = .ok r w'
  | [], ks, i, ds, es, vs, us, r, hf, _, _, hc => by
    cases ks with
    | nil =>
      have := cmpCells_len hc
      have h1 : ds.drop i = [] := List.eq_nil_of_length_eq_zero this.1
      have h2 : es.drop i = [] := List.eq_nil_of_length_eq_zero this.2
      rw [h1, h2] at hc
      cases hc
      rfl
    | cons => cases hf
  | f :: fs, ks, i, ds, es, vs, us, r, hf, hd, he, hc => by
    cases ks with
    | nil => cases hf
    | cons k ks =>
      simp only [eqFieldsAt, Bool.and_eq_true, beq_iff_eq, bne_iff_ne] at hf
      obtain ⟨⟨⟨ho, hn⟩, hk⟩, hrest⟩ := hf
      have hl := cmpCells_len hc
      simp only [List.length_drop, List.length_cons] at hl
      have hi : i < ds.length := by omega
      have hi' : i < es.length := by omega
      rw [List.drop_eq_getElem_cons hi, List.drop_eq_getElem_cons hi'] at hc
      obtain ⟨x, y, h1, h2, rfl⟩ := cmpCells_cons hc
      obtain ⟨v, hv, hrv⟩ := hd.get i (List.getElem?_eq_getElem hi)
      obtain ⟨u, hu, hru⟩ := he.get i (List.getElem?_eq_getElem hi')
      obtain ⟨h3, h4⟩ := run_cmpCell (P := P) hk hrv hru h1 n w'
      have hp : ∀ (cs : List Value) (z : Value), cs[i]? = some z → (part f.type cs.toArray f.offset).run P w' = .ok z w' := by
        intro cs z hz
        unfold part
        have : (isAgg f.type).run P w' = .ok false w' := by
          unfold isAggT at h4
          split at h4
          · rename_i d hd'; rw [run_isAgg' hd' w', h4]
          · rename_i hnone; simp [eqKind, hnone] at hk
        simp only [Sem.run_bind, this, Result.andThen_ok, Bool.false_eq_true, if_false, ho, List.getElem?_toArray, hz, Sem.run_pure]
      simp only [Op.eqFields, hn, if_true, ne_eq, not_false_eq_true, Sem.run_bind, hp _ _ hv, hp _ _ hu, Result.andThen_ok, h3, Sem.run_ite, Sem.run_pure]
      cases x with
      | false => simp
      | true =>
        simp only [Bool.not_true, Bool.false_eq_true, if_false, Bool.true_and]
        exact run_eqFields n w' fs ks (i + 1) ds es vs us y hrest hd he h2
theorem eqCells_of {t : Nat} {ks : List Nat} (h : eqTypes P t ks = true) : EqCells P t ks := by
  intro F w w' B B' ds es vs us r hd he hc
  simp only [eqTypes, Bool.and_eq_true, Bool.not_eq_true'] at h
  obtain ⟨⟨h1, h2⟩, h3⟩ := h
  refine ⟨run_eqGuard_agg w' _ _ _ _ _ _ h3, ?_⟩
  split at h1
  · rename_i fs hfs
    have hf : P.fieldsOf t = fs := by simp [Program.fieldsOf, hfs]
    rw [Op.equal, show Op.maxDepth = 9999 + 1 from rfl, run_equalIn_struct w' 9999 t _ _ (by rw [hf]; exact hfs) h2, hf]
    exact run_eqFields 9998 w' fs.toList ks 0 ds es vs us r h1 hd he (by simpa using hc)
  · cases h1
theorem ΓOK.of {tab : List (Nat × TI)} (h : TabOK P tab) : ΓOK P (tabΓ tab) := fun _ _ ht => TabOK.mem h _ (mem_of_lookup ht)
end

/-! ### parts of a code -/
def cA : Code → Code | .seq a _ => a | c => c
def cB : Code → Code | .seq _ b => b | c => c
def cT : Code → Code | .cond _ a _ => a | c => c
def cE : Code → Code | .cond _ _ b => b | c => c
def cI : Code → Code | .block _ c => c | .loop c => c | .scope c => c | c => c
def cF (f : Func) : Code := f.body.getD .skip
end Go.Proofs.Yteliiabopphgmaa.RX
