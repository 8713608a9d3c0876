import Derived.Test.YtaecmkldkljioaaGreatQP35F
set_option linter.all false
namespace Go.Proofs.YtaecmkldkljioaaGreat.M
open Go Go.Proofs.YtaecmkldkljioaaGreat.RX Go.Proofs.YtaecmkldkljioaaGreat.PL
set_option maxRecDepth 100000
theorem awake36:law36_awake 600000 = some true:=by kernel_rfl
theorem loopV (n:Nat) (hn:100000 ≤ n) (v0:List S_api_Call) (hl:v0.length ≤ 60) (hf:v0.any fewC = false):∀ (k i:Nat) (h:PH),HInv i h → i ≤ v0.length → v0.length - i < k → ∃ h',HInv v0.length h' ∧ law36_ViewHosts_l1 n v0 k (i:Int) h.toH = some h'.toH
 | 0,_,_,_,_,h=>by omega
 | k + 1,i,h,hp,h1,h2=>by
  rw [law36_ViewHosts_l1]
  by_cases hi:i < v0.length
  ·have hc:fewC v0[i] = false:=by
    rw [List.any_eq_false] at hf
    simpa using hf _ (List.getElem_mem hi)
   obtain ⟨f1,f2⟩:=fewC_few hc
   rw [if_pos (lt_i hi),if_pos (in_i hi),at_i hi,Call_eq n _ hp (by omega) f1 f2 hn,Option.bind_some]
   dsimp only
   rw [wrap_s i (by omega)]
   exact loopV n hn v0 hl hf k (i + 1) _ (hp.call _ f1 f2) (by omega) (by omega)
  ·have:i = v0.length:=by omega
   subst this
   rw [nlt_n]
   exact ⟨h,hp,rfl⟩
theorem law36_ViewHosts_true (a0:List (S_api_Call)) (_:W_Lapi_Call a0):∃ n,law36_ViewHosts n a0 = some true:=by
 obtain ⟨n,hn⟩:∃ n,n = 600000:=⟨_,rfl⟩
 refine ⟨n,?_⟩
 have haw:law36_awake n = some true:=by rw [hn]; exact awake36
 unfold law36_ViewHosts
 rw [show (40:Int) = ((40:Nat):Int) from rfl,few33 n a0 40 (by omega) (by omega),Option.bind_some,haw]
 cases hb:(decide (a0.length ≤ 40) && !a0.any fewC) with
 | false=>rfl
 | true =>
  rw [Bool.and_eq_true,decide_eq_true_eq,Bool.not_eq_true'] at hb
  have hN:=New_eq n [] (by simp) (by omega)
  obtain ⟨h,hi,e⟩:=loopV n (by omega) a0 (by omega) hb.2 n 0 _ hN.2 (by omega) (by omega)
  have e:law36_ViewHosts_l1 n a0 n 0 _ = _:=e
  rw [if_neg (by decide),hN.1,Option.bind_some,e,Option.bind_some]
  unfold view_Of__o0
  have h64:=hi.st.boxes
  rw [HBoxes_eq n hi (by omega) (by omega),Option.bind_some]
  dsimp only
  rw [HNets_eq n hi (by omega),Option.bind_some]
  dsimp only
  rw [HVols_eq n hi (by omega),Option.bind_some,Option.bind_some]
  simp only [lett]
  rw [HBoxes_eq n hi (by omega) (by omega),Option.bind_some]
  dsimp only
  rw [sameBoxes_refl n _ (by simp; omega) (seenB_few hi.st) (by omega),Option.bind_some,if_pos (by rfl),HNets_eq n hi (by omega),Option.bind_some]
  dsimp only
  rw [if_pos (by simp),HVols_eq n hi (by omega),Option.bind_some]
  dsimp only
  simp [view_Of__v,host_Host_Boxes__v,host_Host_Nets__v,host_Host_Vols__v]
  have w0:IntKind.wrap .i64 (IntKind.wrap .i64 0) = 0:=by decide
  simp [w0]
end Go.Proofs.YtaecmkldkljioaaGreat.M
