import Derived.Test.YtaecmkldkljioaaGreatQM35N
set_option linter.all false
namespace Go.Proofs.YtaecmkldkljioaaGreat.M
open Go Go.Proofs.YtaecmkldkljioaaGreat.RX
set_option maxRecDepth 100000
theorem awake35:law35_awake 600000 = some true:=by kernel_rfl
theorem law35_HostNil_true (a0:S_law35_Deed) (_:W_law35_Deed a0):∃ n,law35_HostNil n a0 = some true:=by
 obtain ⟨n,hn⟩:∃ n,n = 600000:=⟨_,rfl⟩
 refine ⟨n,?_⟩
 have haw:law35_awake n = some true:=by rw [hn]; exact awake35
 unfold law35_HostNil
 rw [haw]
 rfl
end Go.Proofs.YtaecmkldkljioaaGreat.M
