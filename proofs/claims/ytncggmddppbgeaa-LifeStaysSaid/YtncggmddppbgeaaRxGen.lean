/-
  What the printed walks lean on: loops by fuel, what is kept, the table of types, small steps of the models. Over any program.
-/
import Derived.Test.YtncggmddppbgeaaRxAnyC
import Derived.Laws.StructEq
namespace Go.Proofs.Ytncggmddppbgeaa.RX
open Go.RowKit

section
variable {P : Program} {Γ : Nat → Option TI} {nt : Nat} {F0 : Fz} {w0 : World} {K K' : List (Nat × D)} {L L' : Boxes} {Q Q' : Exit → Act → World → Prop}

/-! ### loops -/
def Lp (P : Program) (c : Code) (Q : Exit → Act → World → Prop) (a : Act) (w : World) : Prop :=
  ∀ (b : Frame) (k : List Item) (cs : List Frame), ∃ e a' w', Q e a' w' ∧ Arrives P (lone (b.at a (.code c :: .inLoop c :: k)) cs w) b k cs e a' w'
/-- At a loop's head. -/
def WL (P : Program) (nt : Nat) (F0 : Fz) (w0 : World) (K : List (Nat × D)) (L : Boxes) (c : Code) (Q : Exit → Act → World → Prop) : Prop :=
  ∀ a w, St nt F0 w0 K L a w → Lp P c Q a w
theorem Wp.loopL {c : Code} (h : WL P nt F0 w0 K L c Q) : Wp P nt F0 w0 K L (.loop c) Q := by
  intro a w hs b k cs
  obtain ⟨e, a', w', hq, harr⟩ := h a w hs b k cs
  exact ⟨e, a', w', hq, .of_steps (.one step_loop) harr⟩
theorem WL.round {c : Code} (h : Wp P nt F0 w0 K L c (Exit.then (fun a w => Lp P c Q a w) Q)) : WL P nt F0 w0 K L c Q := by
  intro a w hs b k cs
  obtain ⟨e, a₁, w₁, hq, harr⟩ := h a w hs b (.inLoop c :: k) cs
  cases e with
  | normal =>
    obtain ⟨e₂, a₂, w₂, hq₂, harr₂⟩ := hq b k cs
    exact ⟨e₂, a₂, w₂, hq₂, .of_steps (Steps.trans harr (.one step_inLoop)) harr₂⟩
  | exit id => exact ⟨_, a₁, w₁, hq, .pass (x := .inLoop c) rfl (fun _ _ => .inl (by simp)) harr⟩
  | goto l => exact ⟨_, a₁, w₁, hq, .pass (x := .inLoop c) rfl (fun _ _ => .inl (by simp)) harr⟩
  | ret => exact ⟨_, a₁, w₁, hq, .pass (x := .inLoop c) rfl (fun _ _ => .inl (by simp)) harr⟩
  | panic ch => exact ⟨_, a₁, w₁, hq, .pass (x := .inLoop c) rfl (fun _ _ => .inl (by simp)) harr⟩
  | outgrown => exact ⟨_, a₁, w₁, hq, .pass (x := .inLoop c) rfl (fun _ _ => .inl (by simp)) harr⟩
theorem To.again {c : Code} (h : WL P nt F0 w0 K L c Q) : To nt F0 w0 K L .normal (Exit.then (fun a w => Lp P c Q a w) Q) := h

/-! ### what is kept -/
def keepS : List (Nat × D) → List Nat → Option (List (Nat × D))
  | _, [] => some []
  | K, t :: ts => match K.lookup t, keepS K ts with | some d, some r => some ((t, d) :: r) | _, _ => none
theorem keepS_mem {K : List (Nat × D)} : ∀ {ts : List Nat} {r : List (Nat × D)}, keepS K ts = some r → ∀ x ∈ r, x ∈ K
  | [], r, h, x, hx => by cases h; simp at hx
  | t :: ts, r, h, x, hx => by
    unfold keepS at h
    split at h
    · rename_i d r' hd hr
      cases h
      rcases List.mem_cons.1 hx with rfl | hx
      · exact mem_of_lookup hd
      · exact keepS_mem hr x hx
    · cases h
theorem To.keep {e : Exit} {kk kl : List Nat} (hk : keepS K kk = some K') (hl : keepL L kl = some L') (h : To nt F0 w0 K' L' e Q) : To nt F0 w0 K L e Q := To.sub (keepS_mem hk) (keepL_mem hl) h
theorem Wp.keep {c : Code} {kk kl : List Nat} (hk : keepS K kk = some K') (hl : keepL L kl = some L') (h : Wp P nt F0 w0 K' L' c Q) : Wp P nt F0 w0 K L c Q := Wp.sub (keepS_mem hk) (keepL_mem hl) h

/-! ### the same said weaker: a nil slice is an empty one -/
mutual
inductive Weak : D → D → Prop
  | refl (d : D) : Weak d d
  | zero {α : Type} (d : α) (enc : α → List D) : Weak (.val (.slice none 0 0)) (.recs d enc [])
  | agg {ds es : List D} (h : Weaks ds es) : Weak (.agg ds) (.agg es)
inductive Weaks : List D → List D → Prop
  | nil : Weaks [] []
  | cons {d e : D} {ds es : List D} (h : Weak d e) (hs : Weaks ds es) : Weaks (d :: ds) (e :: es)
end
mutual
theorem Weak.rep {F w B} : ∀ {d e : D} {v : Value}, Weak d e → Rep F w B d v → Rep F w B e v
  | _, _, _, .refl _, hr => hr
  | _, _, _, .zero d enc, hr => by cases hr; exact .recsNil d enc none
  | _, _, _, .agg h, hr => by cases hr with | agg _ vs hr => exact .agg _ _ (Weaks.rep h hr)
theorem Weaks.rep {F w B} : ∀ {ds es : List D} {vs : List Value}, Weaks ds es → RepL F w B ds vs → RepL F w B es vs
  | _, _, _, .nil, hr => hr
  | _, _, _, .cons h hs, hr => by cases hr with | cons _ _ _ _ hr hrs => exact .cons _ _ _ _ (Weak.rep h hr) (Weaks.rep hs hrs)
end
theorem Weak.flat {d e : D} (h : Weak d e) (hf : d.flat = true) : e.flat = true := by
  cases h with
  | refl => exact hf
  | zero => rfl
  | agg => cases hf
theorem Weaks.flat : ∀ {ds es : List D}, Weaks ds es → ds.all D.flat = true → es.all D.flat = true
  | _, _, .nil, h => h
  | _, _, .cons h hs, hf => by
    simp only [List.all_cons, Bool.and_eq_true] at hf ⊢
    exact ⟨Weak.flat h hf.1, Weaks.flat hs hf.2⟩
inductive WeakK : List (Nat × D) → List (Nat × D) → Prop
  | nil : WeakK [] []
  | cons {t : Nat} {d e : D} {K K' : List (Nat × D)} (h : Weak d e) (hs : WeakK K K') : WeakK ((t, d) :: K) ((t, e) :: K')
inductive WeakB : Boxes → Boxes → Prop
  | nil : WeakB [] []
  | cons {k t : Nat} {ds es : List D} {L L' : Boxes} (h : Weaks ds es) (hs : WeakB L L') : WeakB ((k, t, ds) :: L) ((k, t, es) :: L')
theorem WeakK.mem : ∀ {K K' : List (Nat × D)}, WeakK K K' → ∀ x ∈ K', ∃ d, (x.1, d) ∈ K ∧ Weak d x.2
  | _, _, .nil, x, hx => by simp at hx
  | _, _, .cons h hs, x, hx => by
    rcases List.mem_cons.1 hx with rfl | hx
    · exact ⟨_, List.mem_cons_self, h⟩
    · obtain ⟨d, h1, h2⟩ := WeakK.mem hs x hx
      exact ⟨d, List.mem_cons_of_mem _ h1, h2⟩
theorem WeakB.mem : ∀ {L L' : Boxes}, WeakB L L' → ∀ x ∈ L', ∃ ds, (x.1, x.2.1, ds) ∈ L ∧ Weaks ds x.2.2
  | _, _, .nil, x, hx => by simp at hx
  | _, _, .cons h hs, x, hx => by
    rcases List.mem_cons.1 hx with rfl | hx
    · exact ⟨_, List.mem_cons_self, h⟩
    · obtain ⟨d, h1, h2⟩ := WeakB.mem hs x hx
      exact ⟨d, List.mem_cons_of_mem _ h1, h2⟩
theorem St.weak {a : Act} {w : World} (hK : WeakK K K') (hL : WeakB L L') (h : St nt F0 w0 K L a w) : St nt F0 w0 K' L' a w := by
  obtain ⟨B, F, hb, hd, hs, hk⟩ := h
  refine ⟨B, F, ⟨fun k t es hm => ?_, fun i j b hi hj => hb.inj i j b ?_ ?_, hb.frz, hb.more, hb.old, hb.below⟩, hd, hs, fun x hx => ?_⟩
  · obtain ⟨ds, h1, h2⟩ := hL.mem _ hm
    obtain ⟨b, vs, h3, h4, h5, h6⟩ := hb.boxes _ _ _ h1
    exact ⟨b, vs, h3, h2.rep h4, h2.flat h5, h6⟩
  · obtain ⟨t, es, hm⟩ := hi
    obtain ⟨ds, h1, _⟩ := hL.mem _ hm
    exact ⟨_, _, h1⟩
  · obtain ⟨t, es, hm⟩ := hj
    obtain ⟨ds, h1, _⟩ := hL.mem _ hm
    exact ⟨_, _, h1⟩
  · obtain ⟨d, h1, h2⟩ := hK.mem _ hx
    obtain ⟨v, h3, h4⟩ := hk _ h1
    exact ⟨v, h3, h2.rep h4⟩
theorem To.weak {e : Exit} (hK : WeakK K K') (hL : WeakB L L') (h : To nt F0 w0 K' L' e Q) : To nt F0 w0 K L e Q := fun a w hs => h a w (hs.weak hK hL)
theorem Wp.weak {c : Code} (hK : WeakK K K') (hL : WeakB L L') (h : Wp P nt F0 w0 K' L' c Q) : Wp P nt F0 w0 K L c Q := fun a w hs => h a w (hs.weak hK hL)

/-! ### what is owed -/
theorem AllP.nil : AllP [] := trivial
theorem AllP.cons {p : Prop} {l : List Prop} (h : p) (hs : AllP l) : AllP (p :: l) := by
  cases l with
  | nil => exact h
  | cons q l => exact ⟨h, hs⟩
theorem callsX_args {f : Nat} {ds es : List D} {r : D} (hw : Weaks ds es) (h : CallsX P f es r) : CallsX P f ds r := ⟨h.1, fun F w args hF hr => h.2 F w args hF (hw.rep hr)⟩
theorem callsX_eq {f : Nat} {ds : List D} {r r' : D} (h : CallsX P f ds r) (e : r = r') : CallsX P f ds r' := e ▸ h

/-! ### steps of the models -/
theorem if_t {c : Bool} {α : Type _} {x y : α} {r : α} (hc : c = true) (h : (if c = true then x else y) = r) : x = r := by rwa [if_pos hc] at h
theorem if_f {c : Bool} {α : Type _} {x y : α} {r : α} (hc : c = false) (h : (if c = true then x else y) = r) : y = r := by rwa [if_neg (by simp [hc])] at h
theorem chk_of {c : Bool} {α : Type _} {x : Option α} {r : α} (h : (if c = true then x else none) = some r) : c = true ∧ x = some r := by
  by_cases hc : c = true
  · exact ⟨hc, if_t hc h⟩
  · rw [if_neg hc] at h; cases h
theorem bind_of {α β : Type _} {x : Option α} {f : α → Option β} {r : β} (h : x.bind f = some r) : ∃ y, x = some y ∧ f y = some r := Option.bind_eq_some_iff.1 h

def lett {α β : Type _} (a : α) (f : α → β) : β := f a
theorem lett_of {α β : Type _} {a : α} {f : α → β} {r : β} (h : lett a f = r) : ∃ x, a = x ∧ f x = r := ⟨a, rfl, h⟩
theorem sum_l {α β γ : Type _} {f : α → γ} {g : β → γ} {a : α} {r : γ} (h : Sum.elim f g (.inl a) = r) : f a = r := h
theorem sum_r {α β γ : Type _} {f : α → γ} {g : β → γ} {b : β} {r : γ} (h : Sum.elim f g (.inr b) = r) : g b = r := h

/-! ### the table of types -/
def isAggT (P : Program) (t : Nat) : Bool := match P.underlying t with | some d => aggDesc d | none => false
def tabΓ (tab : List (Nat × TI)) : Nat → Option TI := fun t => tab.lookup t
def TabOK (P : Program) : List (Nat × TI) → Prop
  | [] => True
  | x :: l => (tiOf P x.1 = some { x.2 with eqs := [] } ∧ (x.2.eqs ≠ [] → EqCells P x.1 x.2.eqs)) ∧ TabOK P l
theorem TabOK.mem : ∀ {l : List (Nat × TI)}, TabOK P l → ∀ x ∈ l, tiOf P x.1 = some { x.2 with eqs := [] } ∧ (x.2.eqs ≠ [] → EqCells P x.1 x.2.eqs)
  | [], _, x, hx => by simp at hx
  | y :: l, h, x, hx => by
    rcases List.mem_cons.1 hx with rfl | hx
    · exact h.1
    · exact TabOK.mem h.2 x hx
def eqKind (P : Program) (t : Nat) : Option Nat := match P.underlying t with | some (.int _) => some 0 | some .bool => some 1 | some .string => some 2 | _ => none
def eqFieldsAt (P : Program) : Nat → List Field → List Nat → Bool
  | _, [], [] => true
  | i, f :: fs, k :: ks => f.offset == i && f.name != "_" && eqKind P f.type == some k && eqFieldsAt P (i + 1) fs ks
  | _, _, _ => false
def eqTypes (P : Program) (t : Nat) (ks : List Nat) : Bool := (match P.underlying t with | some (.struct fs) => eqFieldsAt P 0 fs.toList ks | _ => false) && !(P.stoodInHeld t) && !(P.eqGuardType P.depth t)
theorem cmpCells_cons {k : Nat} {a b : D} {ks : List Nat} {as bs : List D} {r : Bool} (h : cmpCells (k :: ks) (a :: as) (b :: bs) = some r) : ∃ x y, cmpCell k a b = some x ∧ cmpCells ks as bs = some y ∧ r = (x && y) := by
  unfold cmpCells at h
  split at h
  · rename_i h1 h2 h3; cases h1
  · rename_i h1 h2 h3; cases h1; cases h2; cases h3
    exact ⟨r, true, h, rfl, by simp⟩
  · rename_i h1 h2 h3; cases h1; cases h2; cases h3
    split at h
    · rename_i x y hx hy; cases h; exact ⟨x, y, hx, hy, rfl⟩
    · cases h
  · cases h
theorem cmpCells_len : ∀ {ks : List Nat} {as bs : List D} {r : Bool}, cmpCells ks as bs = some r → as.length = ks.length ∧ bs.length = ks.length
  | [], [], [], _, _ => ⟨rfl, rfl⟩
  | [], [], _ :: _, _, h => by simp [cmpCells] at h
  | [], _ :: _, _, _, h => by simp [cmpCells] at h
  | _ :: _, [], _, _, h => by simp [cmpCells] at h
  | _ :: _, _ :: _, [], _, h => by simp [cmpCells] at h
  | k :: ks, a :: as, b :: bs, r, h => by
    obtain ⟨x, y, _, h2, _⟩ := cmpCells_cons h
    have := cmpCells_len h2
    simp [this.1, this.2]
theorem run_cmpCell {F F' w B B'} {k t : Nat} {d e : D} {v u : Value} {x : Bool} (hk : eqKind P t = some k) (hd : Rep F w B d v) (he : Rep F' w B' e u) (hc : cmpCell k d e = some x) (n : Nat) (w' : World) : (Op.equalIn (n + 1) t v u).run P w' = .ok x w' ∧ isAggT P t = false := by
  unfold eqKind at hk
  unfold cmpCell at hc
  split at hc
  · split at hk <;> cases hk
    rename_i hu
    split at hc
    · rename_i hkk; subst hkk; cases hc; cases hd; cases he; exact ⟨run_equalIn_int w' n t _ _ _ _ hu, by simp [isAggT, hu, aggDesc]⟩
    · cases hc
  · split at hk <;> cases hk
    rename_i hu
    cases hc; cases hd; cases he; exact ⟨run_equalIn_bool' w' n t _ _ hu, by simp [isAggT, hu, aggDesc]⟩
  · split at hk <;> cases hk
    rename_i hu
    cases hc; cases hd; cases he
    refine ⟨?_, by simp [isAggT, hu, aggDesc]⟩
    rw [run_equalIn_string w' n t _ _ hu]
    simp [ByteArray.toList_eq]
  · cases hc
theorem run_eqFields {F F' w B B'} (n : Nat) (w' : World) : ∀ (fs : List Field) (ks : List Nat) (i : Nat) (ds es : List D) (vs us : List Value) (r : Bool), eqFieldsAt P i fs ks = true → RepL F w B ds vs → RepL F' w B' es us →
    cmpCells ks (ds.drop i) (es.drop i) = some r → (Op.eqFields (n + 1) vs.toArray us.toArray fs).run P w' = .ok r w'
  | [], ks, i, ds, es, vs, us, r, hf, _, _, hc => by
    cases ks with
    | nil =>
      have := cmpCells_len hc
      have h1 : ds.drop i = [] := List.eq_nil_of_length_eq_zero this.1
      have h2 : es.drop i = [] := List.eq_nil_of_length_eq_zero this.2
      rw [h1, h2] at hc
      cases hc
      rfl
    | cons => cases hf
  | f :: fs, ks, i, ds, es, vs, us, r, hf, hd, he, hc => by
    cases ks with
    | nil => cases hf
    | cons k ks =>
      simp only [eqFieldsAt, Bool.and_eq_true, beq_iff_eq, bne_iff_ne] at hf
      obtain ⟨⟨⟨ho, hn⟩, hk⟩, hrest⟩ := hf
      have hl := cmpCells_len hc
      simp only [List.length_drop, List.length_cons] at hl
      have hi : i < ds.length := by omega
      have hi' : i < es.length := by omega
      rw [List.drop_eq_getElem_cons hi, List.drop_eq_getElem_cons hi'] at hc
      obtain ⟨x, y, h1, h2, rfl⟩ := cmpCells_cons hc
      obtain ⟨v, hv, hrv⟩ := hd.get i (List.getElem?_eq_getElem hi)
      obtain ⟨u, hu, hru⟩ := he.get i (List.getElem?_eq_getElem hi')
      obtain ⟨h3, h4⟩ := run_cmpCell (P := P) hk hrv hru h1 n w'
      have hp : ∀ (cs : List Value) (z : Value), cs[i]? = some z → (part f.type cs.toArray f.offset).run P w' = .ok z w' := by
        intro cs z hz
        unfold part
        have : (isAgg f.type).run P w' = .ok false w' := by
          unfold isAggT at h4
          split at h4
          · rename_i d hd'; rw [run_isAgg' hd' w', h4]
          · rename_i hnone; simp [eqKind, hnone] at hk
        simp only [Sem.run_bind, this, Result.andThen_ok, Bool.false_eq_true, if_false, ho, List.getElem?_toArray, hz, Sem.run_pure]
      simp only [Op.eqFields, hn, if_true, ne_eq, not_false_eq_true, Sem.run_bind, hp _ _ hv, hp _ _ hu, Result.andThen_ok, h3, Sem.run_ite, Sem.run_pure]
      cases x with
      | false => simp
      | true =>
        simp only [Bool.not_true, Bool.false_eq_true, if_false, Bool.true_and]
        exact run_eqFields n w' fs ks (i + 1) ds es vs us y hrest hd he h2
theorem eqCells_of {t : Nat} {ks : List Nat} (h : eqTypes P t ks = true) : EqCells P t ks := by
  intro F w w' B B' ds es vs us r hd he hc
  simp only [eqTypes, Bool.and_eq_true, Bool.not_eq_true'] at h
  obtain ⟨⟨h1, h2⟩, h3⟩ := h
  refine ⟨run_eqGuard_agg w' _ _ _ _ _ _ h3, ?_⟩
  split at h1
  · rename_i fs hfs
    have hf : P.fieldsOf t = fs := by simp [Program.fieldsOf, hfs]
    rw [Op.equal, show Op.maxDepth = 9999 + 1 from rfl, run_equalIn_struct w' 9999 t _ _ (by rw [hf]; exact hfs) h2, hf]
    exact run_eqFields 9998 w' fs.toList ks 0 ds es vs us r h1 hd he (by simpa using hc)
  · cases h1
theorem ΓOK.of {tab : List (Nat × TI)} (h : TabOK P tab) : ΓOK P (tabΓ tab) := fun _ _ ht => TabOK.mem h _ (mem_of_lookup ht)
end

/-! ### parts of a code -/
def cA : Code → Code | .seq a _ => a | c => c
def cB : Code → Code | .seq _ b => b | c => c
def cT : Code → Code | .cond _ a _ => a | c => c
def cE : Code → Code | .cond _ _ b => b | c => c
def cI : Code → Code | .block _ c => c | .loop c => c | .scope c => c | c => c
def cF (f : Func) : Code := f.body.getD .skip
end Go.Proofs.Ytncggmddppbgeaa.RX
