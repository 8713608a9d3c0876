/-
  Part of the proof of PortLists: RxOrd.
-/
import Derived.Test.YtonjhkefnijlhaaDoorQRxAnyC
set_option linter.all false
namespace Go.Proofs.YtonjhkefnijlhaaDoor.RX
open Go.RowKit
structure OA where
  lv : List (Nat × ES)
  ps : List (ES × ES)
  ob : List (Nat × List Prop)
  os : List (List Prop × List Prop)
section
variable (C : Nat → List D → D → Prop) (CB : Nat → List D → Boxes → D → Boxes → Prop) (Γ : Nat → Option TI) (nt : Nat) (orc : List (Nat × D)) (orb : List (Nat × CBd)) (ops : List Oper) (fz : List (Nat × List Nat)) (slots keys : List Nat)
end
structure Mono (A A' : OA) : Prop where
  lv : ∀ m s, A.lv.lookup m = some s → A'.lv.lookup m = some s
  ob : ∀ i o, A.ob.lookup i = some o → A'.ob.lookup i = some o
  ps : ∀ p ∈ A.ps, p ∈ A'.ps
  os : ∀ p ∈ A.os, p ∈ A'.os
theorem Mono.refl (A : OA) : Mono A A := ⟨fun _ _ h => h, fun _ _ h => h, fun _ h => h, fun _ h => h⟩
theorem Mono.trans {A B C : OA} (h : Mono A B) (h' : Mono B C) : Mono A C := ⟨fun m s x => h'.lv m s (h.lv m s x), fun i o x => h'.ob i o (h.ob i o x), fun p x => h'.ps p (h.ps p x), fun p x => h'.os p (h.os p x)⟩
section
variable {C : Nat → List D → D → Prop} {CB : Nat → List D → Boxes → D → Boxes → Prop} {P : Program} {F0 : Fz} {w0 : Pt P} {B : Env} {F : Fz} {w : World} {a : Act} {Q : Exit → Act → World → Prop} {Γ : Nat → Option TI} {nt : Nat} {ops : List Oper} {orc : List (Nat × D)} {orb : List (Nat × CBd)} {fz : List (Nat × List Nat)} {slots keys : List Nat}
structure MonoP (A A' : OA) : Prop where
  ob : ∀ i o, A.ob.lookup i = some o → A'.ob.lookup i = some o
  ps : ∀ p ∈ A.ps, p ∈ A'.ps
  os : ∀ p ∈ A.os, p ∈ A'.os
end
end Go.Proofs.YtonjhkefnijlhaaDoor.RX
