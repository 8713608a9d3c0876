/-
  Part of the proof of StoreNil: M33c.
-/
import Derived.Test.YtaecmkldkljioaaQM33b
set_option linter.all false
namespace Go.Proofs.Ytaecmkldkljioaa.M
open Go.RowKit Go.Proofs.Ytaecmkldkljioaa.RX
set_option maxRecDepth 100000
theorem opens_i64 : Opens Try.prog 3 (fun n : Int => IntKind.min .i64 ≤ n ∧ n ≤ IntKind.max .i64) (fun n => [.val (.int .i64 n)]) := opens_int (by kernel_rfl)
theorem opens_string : Opens Try.prog 9 (fun l : List UInt8 => l.length ≤ maxLen) (fun l => [.str l]) := opens_str (by kernel_rfl)
def W_Lstring (l : List (List UInt8)) : Prop := l.length ≤ maxLen ∧ ∀ x ∈ l, (List.length x ≤ maxLen)
theorem opens_Lstring : Opens Try.prog 27 W_Lstring (fun l => [.recs (α := List UInt8) [] E_string l]) := opens_slice (α := List UInt8) (cells := E_string) [] (by kernel_rfl) (by kernel_rfl) (of_decide_eq_true (by kernel_rfl)) opens_string
def W_api_Check (x : S_api_Check) : Prop := (List.length x.f_Test ≤ maxLen) ∧ (IntKind.min .i64 ≤ x.f_Every ∧ x.f_Every ≤ IntKind.max .i64) ∧ (IntKind.min .i64 ≤ x.f_Start ∧ x.f_Start ≤ IntKind.max .i64) ∧ (IntKind.min .i64 ≤ x.f_Retries ∧ x.f_Retries ≤ IntKind.max .i64)
theorem opens_api_Check : Opens Try.prog 39 W_api_Check (fun x => [.str x.f_Test, .val (.int .i64 x.f_Every), .val (.int .i64 x.f_Start), .val (.int .i64 x.f_Retries)]) := by
  intro H enc W fuel cs d ps h
  obtain ⟨hl, hf⟩ := field_of Try.underlying39 h
  have hl : cs.length = 4 := hl.trans (by kernel_rfl)
  obtain ⟨x0, w0, r0⟩ := hf 0 _ rfl opens_string
  have r0 := repAt (a' := 0) (b' := 1) r0 (by kernel_rfl) (by kernel_rfl)
  obtain ⟨x1, w1, r1⟩ := hf 1 _ rfl opens_i64
  have r1 := repAt (a' := 1) (b' := 1) r1 (by kernel_rfl) (by kernel_rfl)
  obtain ⟨x2, w2, r2⟩ := hf 2 _ rfl opens_i64
  have r2 := repAt (a' := 2) (b' := 1) r2 (by kernel_rfl) (by kernel_rfl)
  obtain ⟨x3, w3, r3⟩ := hf 3 _ rfl opens_i64
  have r3 := repAt (a' := 3) (b' := 1) r3 (by kernel_rfl) (by kernel_rfl)
  refine ⟨⟨x0, x1, x2, x3⟩, ⟨w0, w1, w2, w3⟩, ?_⟩
  refine parts_all (l := [([.str x0], 1), ([.val (.int .i64 x1)], 1), ([.val (.int .i64 x2)], 1), ([.val (.int .i64 x3)], 1)]) ⟨r0, r1, r2, r3, Nat.le_of_eq hl⟩ rfl
def W_api_Spec (x : S_api_Spec) : Prop := (List.length x.f_Name ≤ maxLen) ∧ (List.length x.f_Project ≤ maxLen) ∧ (List.length x.f_Service ≤ maxLen) ∧ (IntKind.min .i64 ≤ x.f_Number ∧ x.f_Number ≤ IntKind.max .i64) ∧ (List.length x.f_Hash ≤ maxLen) ∧ (W_Lstring x.f_Nets) ∧ (W_Lstring x.f_Vols) ∧ (W_api_Check x.f_Health) ∧ (IntKind.min .i64 ≤ x.f_Restart ∧ x.f_Restart ≤ IntKind.max .i64) ∧ (IntKind.min .i64 ≤ x.f_Tries ∧ x.f_Tries ≤ IntKind.max .i64)
end Go.Proofs.Ytaecmkldkljioaa.M
