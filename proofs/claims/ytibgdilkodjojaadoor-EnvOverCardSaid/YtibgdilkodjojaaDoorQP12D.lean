import Derived.Test.YtibgdilkodjojaaDoorQP12C
set_option linter.all false
namespace Go.Proofs.YtibgdilkodjojaaDoor.M
open Go Go.Proofs.YtibgdilkodjojaaDoor.RX Go.Proofs.YtibgdilkodjojaaDoor.PL
set_option maxRecDepth 100000
theorem awake12 (n:Nat) (hn:600000 ≤ n):law12_awake n = some true:=by
 obtain ⟨m,rfl⟩:∃ m,n = m + 60:=⟨n - 60,by omega⟩
 have l1:env_Parse_l1 (m + 60) (m + 60) [35,32,97,10,101,120,112,111,114,116,32,88,61,49,32,35,32,115,111,10,89,61,39,97,32,98,39,10] 1 [] = some (.inl [(.inl [88],⟨[49]⟩),(.inl [89],⟨[97,32,98]⟩)]):=by clear hn; kernel_rfl
 have hk:keysS [((Sum.inl [88]:MK),S_env_entry.mk [49]),(Sum.inl [89],S_env_entry.mk [97,32,98])] = [[88],[89]]:=(strSort_srt (ks:=[[88],[89]]) (by decide)).trans (by decide)
 have v1:env_Parse (m + 60) [35,32,97,10,101,120,112,111,114,116,32,88,61,49,32,35,32,115,111,10,89,61,39,97,32,98,39,10] = some ([⟨[88],[49]⟩,⟨[89],[97,32,98]⟩],0,0):=by
  unfold env_Parse
  rw [if_neg (by decide),l1,Option.bind_some]
  simp only [Sum.elim_inl]
  rw [if_neg (by decide)]
  unfold env_told__m0
  rw [if_pos (by decide),hk]
  clear l1 hk hn
  kernel_rfl
 have v2:env_Parse (m + 60) [88,61,49,10,89,10] = some ([],2,3):=by clear hn l1 hk v1; kernel_rfl
 unfold law12_awake
 rw [v1,v2,Option.bind_some,Option.bind_some]
 simp only [same_self12 (m + 60) _ (show List.length [S_api_Var.mk [88] [49],S_api_Var.mk [89] [97,32,98]] ≤ 100000 by decide) (by simp)]
 rfl
end Go.Proofs.YtibgdilkodjojaaDoor.M
