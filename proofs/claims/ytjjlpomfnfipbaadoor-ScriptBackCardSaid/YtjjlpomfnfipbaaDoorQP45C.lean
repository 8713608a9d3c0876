/-
  Part of the proof of ScriptBack: P45C.
-/
import Derived.Test.YtjjlpomfnfipbaaDoorQP45B
set_option linter.all false
namespace Go.Proofs.YtjjlpomfnfipbaaDoor.M
open Go Go.Proofs.YtjjlpomfnfipbaaDoor.RX Go.Proofs.YtjjlpomfnfipbaaDoor.PL
def endB {α : Type} (sp : Option (α × List BS)) : Option α := match sp with | some (x, []) => some x | _ => none
def Ends {α : Type} (o : Option (α × Bool)) (sp : Option (α × List BS)) : Prop := ∃ y b, o = some (y, b) ∧ (b = true → endB sp = some y) ∧ (b = false → endB sp = none)
theorem Ends.no {α : Type} {y : α} {sp : Option (α × List BS)} (h : endB sp = none) : Ends (some (y, false)) sp := ⟨y, false, rfl, fun h => (by cases h), fun _ => h⟩
abbrev MN : BS := [109, 97, 107, 101, 45, 110, 101, 116]
abbrev MV : BS := [109, 97, 107, 101, 45, 118, 111, 108]
abbrev DN : BS := [100, 114, 111, 112, 45, 110, 101, 116]
abbrev DV : BS := [100, 114, 111, 112, 45, 118, 111, 108]
end Go.Proofs.YtjjlpomfnfipbaaDoor.M
