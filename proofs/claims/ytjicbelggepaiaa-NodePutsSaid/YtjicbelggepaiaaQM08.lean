/-
  Part of the proof of NodePuts: M08.
-/
import Derived.Test.YtjicbelggepaiaaQM08c
set_option linter.all false
namespace Go.Proofs.Ytjicbelggepaiaa.M
open Go.RowKit Go.Proofs.Ytjicbelggepaiaa.RX
set_option maxRecDepth 100000
theorem opens_i64 : Opens Try.prog 3 (fun n : Int => IntKind.min .i64 ≤ n ∧ n ≤ IntKind.max .i64) (fun n => [.val (.int .i64 n)]) := opens_int (by kernel_rfl)
theorem opens_string : Opens Try.prog 9 (fun l : List UInt8 => l.length ≤ maxLen) (fun l => [.str l]) := opens_str (by kernel_rfl)
def W_Lstring (l : List (List UInt8)) : Prop := l.length ≤ maxLen ∧ ∀ x ∈ l, (List.length x ≤ maxLen)
theorem opens_Lstring : Opens Try.prog 22 W_Lstring (fun l => [.recs (α := List UInt8) [] E_string l]) := opens_slice (α := List UInt8) (cells := E_string) [] (by kernel_rfl) (by kernel_rfl) (of_decide_eq_true (by kernel_rfl)) opens_string
inductive W_api_Node : S_api_Node → Prop
  | mk (x : S_api_Node) (h : (IntKind.min .i64 ≤ x.f_Kind ∧ x.f_Kind ≤ IntKind.max .i64) ∧ (List.length x.f_Text ≤ maxLen) ∧ (W_Lstring x.f_Keys)) (hl : x.f_Kids.length ≤ maxLen) (hk : ∀ y ∈ x.f_Kids, W_api_Node y) : W_api_Node x
theorem opens_api_Node : Opens Try.prog 25 W_api_Node tr_S_api_Node := by
  refine opens_ind fun N ih => ?_
  intro H enc W fuel cs d ps hN h
  obtain ⟨hl, hf⟩ := field_ofN Try.underlying25 hN h
  have hl : cs.length = 4 := hl.trans (by kernel_rfl)
  obtain ⟨x0, w0, r0⟩ := hf 0 _ rfl (opens_i64.n N)
  have r0 := repAt (a' := 0) (b' := 1) r0 (by kernel_rfl) (by kernel_rfl)
  obtain ⟨x1, w1, r1⟩ := hf 1 _ rfl (opens_string.n N)
  have r1 := repAt (a' := 1) (b' := 1) r1 (by kernel_rfl) (by kernel_rfl)
  obtain ⟨x2, w2, r2⟩ := hf 2 _ rfl (opens_Lstring.n N)
  have r2 := repAt (a' := 2) (b' := 1) r2 (by kernel_rfl) (by kernel_rfl)
  obtain ⟨x3, w3, r3⟩ := hf 3 _ rfl (opensN_kids (α := S_api_Node) (pre := pre_S_api_Node) (kids := kids_S_api_Node) (S_api_Node.mk 0 [] [] []) Try.underlying23 (by kernel_rfl) (of_decide_eq_true (by kernel_rfl)) ih)
  have r3 := repAt (a' := 3) (b' := 1) r3 (by kernel_rfl) (by kernel_rfl)
  refine ⟨⟨x0, x1, x2, x3⟩, .mk _ ⟨w0, w1, w2⟩ w3.1 w3.2, ?_⟩
  exact parts_all (l := [([.val (.int .i64 x0)], 1), ([.str x1], 1), ([.recs (α := List UInt8) [] E_string x2], 1), ([.tree (α := S_api_Node) (S_api_Node.mk 0 [] [] []) pre_S_api_Node kids_S_api_Node x3], 1)]) ⟨r0, r1, r2, r3, Nat.le_of_eq hl⟩ rfl
end Go.Proofs.Ytjicbelggepaiaa.M
