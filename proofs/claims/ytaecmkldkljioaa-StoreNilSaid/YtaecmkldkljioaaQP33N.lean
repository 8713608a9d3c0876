/-
  Part of the proof of StoreNil: P33N.
-/
import Derived.Test.YtaecmkldkljioaaQM33
set_option linter.all false
namespace Go.Proofs.Ytaecmkldkljioaa.M
open Go Go.Proofs.Ytaecmkldkljioaa.RX
set_option maxRecDepth 100000
theorem awake33 : law33_awake 600000 = some true := by kernel_rfl
theorem law33_StoreNil_true (a0 : S_api_Call) (_ : W_api_Call a0) (a1 : Int) (_ : IntKind.min .i64 ≤ a1 ∧ a1 ≤ IntKind.max .i64) : ∃ n, law33_StoreNil n a0 a1 = some true := by
  obtain ⟨n, hn⟩ : ∃ n, n = 600000 := ⟨_, rfl⟩
  refine ⟨n, ?_⟩
  have haw : law33_awake n = some true := by rw [hn]; exact awake33
  unfold law33_StoreNil
  rw [haw]
  rfl
end Go.Proofs.Ytaecmkldkljioaa.M
