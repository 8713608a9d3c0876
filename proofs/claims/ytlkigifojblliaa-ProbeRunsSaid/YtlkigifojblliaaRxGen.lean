/-
  What the printed walks lean on: loops by fuel, what is kept, the table of types, small steps of the models. Over any program.
-/
import Derived.Test.YtlkigifojblliaaRxAnyC
namespace Go.Proofs.Ytlkigifojblliaa.RX
open Go.RowKit

section
variable {P : Program} {Γ : Nat → Option TI} {nt : Nat} {F0 : Fz} {w0 : World} {K K' : List (Nat × D)} {L L' : Boxes} {Q Q' : Exit → Act → World → Prop}

/-! ### loops -/
def Lp (P : Program) (c : Code) (Q : Exit → Act → World → Prop) (a : Act) (w : World) : Prop :=
  ∀ (b : Frame) (k : List Item) (cs : List Frame), ∃ e a' w', Q e a' w' ∧ Arrives P (lone (b.at a (.code c :: .inLoop c :: k)) cs w) b k cs e a' w'
/-- At a loop's head. -/
def WL (P : Program) (nt : Nat) (F0 : Fz) (w0 : World) (K : List (Nat × D)) (L : Boxes) (c : Code) (Q : Exit → Act → World → Prop) : Prop :=
  ∀ a w, St nt F0 w0 K L a w → Lp P c Q a w
theorem Wp.loopL {c : Code} (h : WL P nt F0 w0 K L c Q) : Wp P nt F0 w0 K L (.loop c) Q := by
  intro a w hs b k cs
  obtain ⟨e, a', w', hq, harr⟩ := h a w hs b k cs
  exact ⟨e, a', w', hq, .of_steps (.one step_loop) harr⟩
theorem WL.round {c : Code} (h : Wp P nt F0 w0 K L c (Exit.then (fun a w => Lp P c Q a w) Q)) : WL P nt F0 w0 K L c Q := by
  intro a w hs b k cs
  obtain ⟨e, a₁, w₁, hq, harr⟩ := h a w hs b (.inLoop c :: k) cs
  cases e with
  | normal =>
    obtain ⟨e₂, a₂, w₂, hq₂, harr₂⟩ := hq b k cs
    exact ⟨e₂, a₂, w₂, hq₂, .of_steps (Steps.trans harr (.one step_inLoop)) harr₂⟩
  | exit id => exact ⟨_, a₁, w₁, hq, .pass (x := .inLoop c) rfl (fun _ _ => .inl (by simp)) harr⟩
  | goto l => exact ⟨_, a₁, w₁, hq, .pass (x := .inLoop c) rfl (fun _ _ => .inl (by simp)) harr⟩
  | ret => exact ⟨_, a₁, w₁, hq, .pass (x := .inLoop c) rfl (fun _ _ => .inl (by simp)) harr⟩
  | panic ch => exact ⟨_, a₁, w₁, hq, .pass (x := .inLoop c) rfl (fun _ _ => .inl (by simp)) harr⟩
  | outgrown => exact ⟨_, a₁, w₁, hq, .pass (x := .inLoop c) rfl (fun _ _ => .inl (by simp)) harr⟩
theorem To.again {c : Code} (h : WL P nt F0 w0 K L c Q) : To nt F0 w0 K L .normal (Exit.then (fun a w => Lp P c Q a w) Q) := h

/-! ### what is kept -/
def keepS : List (Nat × D) → List Nat → Option (List (Nat × D))
  | _, [] => some []
  | K, t :: ts => match K.lookup t, keepS K ts with | some d, some r => some ((t, d) :: r) | _, _ => none
theorem keepS_mem {K : List (Nat × D)} : ∀ {ts : List Nat} {r : List (Nat × D)}, keepS K ts = some r → ∀ x ∈ r, x ∈ K
  | [], r, h, x, hx => by cases h; simp at hx
  | t :: ts, r, h, x, hx => by
    unfold keepS at h
    split at h
    · rename_i d r' hd hr
      cases h
      rcases List.mem_cons.1 hx with rfl | hx
      · exact mem_of_lookup hd
      · exact keepS_mem hr x hx
    · cases h
theorem To.keep {e : Exit} {kk kl : List Nat} (hk : keepS K kk = some K') (hl : keepL L kl = some L') (h : To nt F0 w0 K' L' e Q) : To nt F0 w0 K L e Q := To.sub (keepS_mem hk) (keepL_mem hl) h
theorem Wp.keep {c : Code} {kk kl : List Nat} (hk : keepS K kk = some K') (hl : keepL L kl = some L') (h : Wp P nt F0 w0 K' L' c Q) : Wp P nt F0 w0 K L c Q := Wp.sub (keepS_mem hk) (keepL_mem hl) h

/-! ### what is owed -/
theorem AllP.nil : AllP [] := trivial
theorem AllP.cons {p : Prop} {l : List Prop} (h : p) (hs : AllP l) : AllP (p :: l) := by
  cases l with
  | nil => exact h
  | cons q l => exact ⟨h, hs⟩
theorem callsX_eq {f : Nat} {ds : List D} {r r' : D} (h : CallsX P f ds r) (e : r = r') : CallsX P f ds r' := e ▸ h

/-! ### steps of the models -/
theorem if_t {c : Bool} {α : Type _} {x y : α} {r : α} (hc : c = true) (h : (if c = true then x else y) = r) : x = r := by rwa [if_pos hc] at h
theorem if_f {c : Bool} {α : Type _} {x y : α} {r : α} (hc : c = false) (h : (if c = true then x else y) = r) : y = r := by rwa [if_neg (by simp [hc])] at h
theorem chk_of {c : Bool} {α : Type _} {x : Option α} {r : α} (h : (if c = true then x else none) = some r) : c = true ∧ x = some r := by
  by_cases hc : c = true
  · exact ⟨hc, if_t hc h⟩
  · rw [if_neg hc] at h; cases h
theorem bind_of {α β : Type _} {x : Option α} {f : α → Option β} {r : β} (h : x.bind f = some r) : ∃ y, x = some y ∧ f y = some r := Option.bind_eq_some_iff.1 h

def lett {α β : Type _} (a : α) (f : α → β) : β := f a
theorem lett_of {α β : Type _} {a : α} {f : α → β} {r : β} (h : lett a f = r) : ∃ x, a = x ∧ f x = r := ⟨a, rfl, h⟩
theorem sum_l {α β γ : Type _} {f : α → γ} {g : β → γ} {a : α} {r : γ} (h : Sum.elim f g (.inl a) = r) : f a = r := h
theorem sum_r {α β γ : Type _} {f : α → γ} {g : β → γ} {b : β} {r : γ} (h : Sum.elim f g (.inr b) = r) : g b = r := h

/-! ### the table of types -/
def tabΓ (tab : List (Nat × TI)) : Nat → Option TI := fun t => tab.lookup t
def TabOK (P : Program) : List (Nat × TI) → Prop
  | [] => True
  | x :: l => (tiOf P x.1 = some { x.2 with eqs := false } ∧ (x.2.eqs = true → EqCells P x.1)) ∧ TabOK P l
theorem TabOK.mem : ∀ {l : List (Nat × TI)}, TabOK P l → ∀ x ∈ l, tiOf P x.1 = some { x.2 with eqs := false } ∧ (x.2.eqs = true → EqCells P x.1)
  | [], _, x, hx => by simp at hx
  | y :: l, h, x, hx => by
    rcases List.mem_cons.1 hx with rfl | hx
    · exact h.1
    · exact TabOK.mem h.2 x hx
def eqTypes (P : Program) (t : Nat) : Bool := false
theorem eqCells_of {t : Nat} (h : eqTypes P t = true) : EqCells P t := by cases h
theorem ΓOK.of {tab : List (Nat × TI)} (h : TabOK P tab) : ΓOK P (tabΓ tab) := fun _ _ ht => TabOK.mem h _ (mem_of_lookup ht)
end

/-! ### parts of a code -/
def cA : Code → Code | .seq a _ => a | c => c
def cB : Code → Code | .seq _ b => b | c => c
def cT : Code → Code | .cond _ a _ => a | c => c
def cE : Code → Code | .cond _ _ b => b | c => c
def cI : Code → Code | .block _ c => c | .loop c => c | .scope c => c | c => c
def cF (f : Func) : Code := f.body.getD .skip
end Go.Proofs.Ytlkigifojblliaa.RX
