/-
  Part of the proof of StoreNil: RxAnyC.
-/
import Derived.Test.YtaecmkldkljioaaQRxAnyB
set_option linter.all false
namespace Go.Proofs.Ytaecmkldkljioaa.RX
open Go.RowKit
section
variable {P : Program} {F0 : Fz} {w0 : Pt P} {B : Env} {F : Fz} {w : World} {a : Act} {Q : Exit → Act → World → Prop} {Γ : Nat → Option TI} {nt : Nat} {ops : List Oper} {L0 : Boxes} {orc : List (Nat × D)} {K : List (Nat × D)} {st : Nat → DS}
theorem all_listed (he : edgesOK ops = true) {listed : Array Bool} (hr : Region.ready .any ops.toArray listed = []) (hsz : listed.size = ops.length) : ∀ j, j < ops.length → listed.getD j false = true := by
  intro j
  induction j using Nat.strongRecOn with
  | _ j ih =>
    intro hj
    cases hl : listed.getD j false with
    | true => rfl
    | false =>
      exfalso
      have ho := List.getElem?_eq_getElem hj
      have : j ∈ Region.ready .any ops.toArray listed := by
        rw [mem_ready]
        refine ⟨?_, ops[j], by rw [List.getElem?_toArray]; exact ho, fun e hem hb => ?_⟩
        · have hj' : j < listed.size := by omega
          simp only [Array.getD_eq_getD_getElem?, Array.getElem?_eq_getElem hj', Option.getD_some] at hl ⊢
          exact hl
        · have hon : e.on ∈ onL ops[j] := by
            unfold onL
            rw [List.mem_filterMap]
            exact ⟨e, by simpa using hem, by rw [hb]; rfl⟩
          have hz : (ops[j], j) ∈ ops.zipIdx := List.mem_zipIdx_iff_getElem?.2 ho
          have h1 := List.all_eq_true.1 he _ hz
          have h2 := List.all_eq_true.1 h1 e.on hon
          have h3 : e.on < j := of_decide_eq_true h2
          exact ih e.on h3 (by omega)
      rw [hr] at this
      simp at this
def left (n : Nat) (listed : Array Bool) : Nat := ((List.range n).filter fun j => !(listed.getD j false)).length
end
end Go.Proofs.Ytaecmkldkljioaa.RX
