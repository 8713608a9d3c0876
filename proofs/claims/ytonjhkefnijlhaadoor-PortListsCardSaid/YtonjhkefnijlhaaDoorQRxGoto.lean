/-
  Part of the proof of PortLists: RxGoto.
-/
import Derived.Test.YtonjhkefnijlhaaDoorQRxGen
set_option linter.all false
namespace Go.Proofs.YtonjhkefnijlhaaDoor.RX
open Go.RowKit
section
variable {P : Program} {nt : Nat} {F0 : Fz} {w0 : Pt P} {K : List (Nat × D)} {L : Boxes} {Q : Exit → Act → World → Prop}
def Lg (P : Program) (c rest : Code) (Q : Exit → Act → World → Prop) (a : Act) (w : World) : Prop :=
  ∀ (b : Frame) (k : List Item) (cs : List Frame), ∃ e a' w', Q e a' w' ∧ Arrives P (lone (b.at a (.code rest :: .inScope c :: k)) cs w) b k cs e a' w'
def WG (P : Program) (nt : Nat) (F0 : Fz) (w0 : Pt P) (K : List (Nat × D)) (L : Boxes) (c rest : Code) (Q : Exit → Act → World → Prop) : Prop :=
  ∀ a w, St nt F0 w0 K L a w → Lg P c rest Q a w
def goes (P : Program) (c : Code) (Q : Exit → Act → World → Prop) : Exit → Act → World → Prop
  | .goto l, a, w => ∃ rest, findLabel c l = some rest ∧ Lg P c rest Q a w
  | e, a, w => Q e a w
theorem WG.pass {c rest : Code} (h : Wp P nt F0 w0 K L rest (goes P c Q)) : WG P nt F0 w0 K L c rest Q := by
  intro a w hs b k cs
  obtain ⟨e, a₁, w₁, hq, harr⟩ := h a w hs b (.inScope c :: k) cs
  cases e with
  | normal => exact ⟨.normal, a₁, w₁, hq, Steps.trans harr (.one step_inScope)⟩
  | exit id => exact ⟨.exit id, a₁, w₁, hq, fun k' hk => harr k' (by simp [exitTo, hk])⟩
  | goto l =>
    obtain ⟨r, hf, hl⟩ := hq
    obtain ⟨e₂, a₂, w₂, hq₂, harr₂⟩ := hl b k cs
    exact ⟨e₂, a₂, w₂, hq₂, .of_steps (harr _ (by simp [gotoIn, hf])) harr₂⟩
  | ret => exact ⟨_, a₁, w₁, hq, harr⟩
  | panic ch => exact ⟨_, a₁, w₁, hq, harr⟩
  | outgrown => exact ⟨_, a₁, w₁, hq, harr⟩
theorem Wp.goto {l : Nat} (h : To nt F0 w0 K L (.goto l) Q) : Wp P nt F0 w0 K L (.goto l) Q := fun a w hs => wp_goto (h a w hs)
theorem To.goto {c rest : Code} {l : Nat} (hf : findLabel c l = some rest) (h : WG P nt F0 w0 K L c rest Q) : To nt F0 w0 K L (.goto l) (goes P c Q) := fun a w hs => ⟨rest, hf, h a w hs⟩
end
end Go.Proofs.YtonjhkefnijlhaaDoor.RX
