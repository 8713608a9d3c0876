import Derived.Test.YtaecmkldkljioaaGreatQM35e
set_option linter.all false
namespace Go.Proofs.YtaecmkldkljioaaGreat.M
open Go.RowKit Go.Proofs.YtaecmkldkljioaaGreat.RX
set_option maxRecDepth 100000
def host_Host_Boxes__o0 (n:Nat) (h0:S_host_Host):Option ((List (S_api_Container)) × S_host_Host) :=
 (store_Store_Boxes__o0 n h0.f_Store).bind fun r1 =>
 some (r1.1,(S_host_Host.mk r1.2 h0.f_plan h0.f_now))
theorem ok_host_Host_Boxes__o0 (n:Nat) (h0:S_host_Host) (r:(List (S_api_Container)) × S_host_Host) (h:host_Host_Boxes__o0 n h0 = some r):CallsB Tryz.prog 31 [.own 1000000 0] (qh31 1000000 1010060 1010061 1010062 1010063 h0) (rs19 r.1) (qh31 1000000 1010060 1010061 1010062 1010063 r.2):=by
 unfold host_Host_Boxes__o0 at h
 refine bo Tryz.f31 rfl fun F0 w0=>?_
 refine Wp.seq (rg [0] [1000000,1010060,1010061,1010062,1010063] [(0,.own 1000000 0)] (qh31 1000000 1010060 1010061 1010062 1010063 h0) (To.thenN (Wp.seq (Wp.seq (rg [0,4] [1000000,1010060,1010061,1010062,1010063] [(0,.own 1000000 0),(4,vb false)] (qh31 1000000 1010060 1010061 1010062 1010063 h0) (To.thenN (Wp.cond (b:=false) (by kernel_rfl) (fun hb=>by cases hb) (fun _=>(Wp.skip (To.thenN (Wp.seq ?_)))))))))))
 obtain ⟨r1,hr1,h⟩:=bind_of h
 refine rb [] 4 ⟨[(1000000,1010060),(1010060,1010061),(1010061,1010062),(1010062,1010063)],[(1000000,1010060),(1010060,1010061),(1010061,1010062),(1010062,1010063)],[.own 1000000 0],(qf5 1000000 1010060 1010061 1010062 h0.f_Store),rs19 r1.1,(qf5 1000000 1010060 1010061 1010062 r1.2)⟩ [2] [1000000,1010060,1010061,1010062,1010063] [(2,rs19 r1.1)] ((1000000,139,[.own 1010060 0,rs25 h0.f_plan.f_l,vi h0.f_plan.f_more,vi h0.f_now])::qf5 1010060 1010061 1010062 1010063 r1.2) ((ok_store_Store_Boxes__o0 n h0.f_Store _ hr1)) (To.thenN (Wp.ret ?_))
 cases h
 exact To.doneB hΓ [1000000,1010060,1010061,1010062,1010063] (by kernel_rfl) (by kernel_rfl)
def host_Host_Nets__o0 (n:Nat) (h0:S_host_Host):Option ((List (S_api_Kept)) × S_host_Host) :=
 (store_Store_Nets__o0 n h0.f_Store).bind fun r1 =>
 some (r1.1,(S_host_Host.mk r1.2 h0.f_plan h0.f_now))
theorem ok_host_Host_Nets__o0 (n:Nat) (h0:S_host_Host) (r:(List (S_api_Kept)) × S_host_Host) (h:host_Host_Nets__o0 n h0 = some r):CallsB Tryz.prog 32 [.own 1000000 0] (qh31 1000000 1010060 1010061 1010062 1010063 h0) (rs22 r.1) (qh31 1000000 1010060 1010061 1010062 1010063 r.2):=by
 unfold host_Host_Nets__o0 at h
 refine bo Tryz.f32 rfl fun F0 w0=>?_
 refine Wp.seq (rg [0] [1000000,1010060,1010061,1010062,1010063] [(0,.own 1000000 0)] (qh31 1000000 1010060 1010061 1010062 1010063 h0) (To.thenN (Wp.seq (Wp.seq (rg [0,4] [1000000,1010060,1010061,1010062,1010063] [(0,.own 1000000 0),(4,vb false)] (qh31 1000000 1010060 1010061 1010062 1010063 h0) (To.thenN (Wp.cond (b:=false) (by kernel_rfl) (fun hb=>by cases hb) (fun _=>(Wp.skip (To.thenN (Wp.seq ?_)))))))))))
 obtain ⟨r1,hr1,h⟩:=bind_of h
 refine rb [] 4 ⟨[(1000000,1010060),(1010060,1010061),(1010061,1010062),(1010062,1010063)],[(1000000,1010060),(1010060,1010061),(1010061,1010062),(1010062,1010063)],[.own 1000000 0],(qf5 1000000 1010060 1010061 1010062 h0.f_Store),rs22 r1.1,(qf5 1000000 1010060 1010061 1010062 r1.2)⟩ [2] [1000000,1010060,1010061,1010062,1010063] [(2,rs22 r1.1)] ((1000000,139,[.own 1010060 0,rs25 h0.f_plan.f_l,vi h0.f_plan.f_more,vi h0.f_now])::qf5 1010060 1010061 1010062 1010063 r1.2) ((ok_store_Store_Nets__o0 n h0.f_Store _ hr1)) (To.thenN (Wp.ret ?_))
 cases h
 exact To.doneB hΓ [1000000,1010060,1010061,1010062,1010063] (by kernel_rfl) (by kernel_rfl)
def host_Host_Vols__o0 (n:Nat) (h0:S_host_Host):Option ((List (S_api_Kept)) × S_host_Host) :=
 (store_Store_Vols__o0 n h0.f_Store).bind fun r1 =>
 some (r1.1,(S_host_Host.mk r1.2 h0.f_plan h0.f_now))
theorem ok_host_Host_Vols__o0 (n:Nat) (h0:S_host_Host) (r:(List (S_api_Kept)) × S_host_Host) (h:host_Host_Vols__o0 n h0 = some r):CallsB Tryz.prog 33 [.own 1000000 0] (qh31 1000000 1010060 1010061 1010062 1010063 h0) (rs22 r.1) (qh31 1000000 1010060 1010061 1010062 1010063 r.2):=by
 unfold host_Host_Vols__o0 at h
 refine bo Tryz.f33 rfl fun F0 w0=>?_
 refine Wp.seq (rg [0] [1000000,1010060,1010061,1010062,1010063] [(0,.own 1000000 0)] (qh31 1000000 1010060 1010061 1010062 1010063 h0) (To.thenN (Wp.seq (Wp.seq (rg [0,4] [1000000,1010060,1010061,1010062,1010063] [(0,.own 1000000 0),(4,vb false)] (qh31 1000000 1010060 1010061 1010062 1010063 h0) (To.thenN (Wp.cond (b:=false) (by kernel_rfl) (fun hb=>by cases hb) (fun _=>(Wp.skip (To.thenN (Wp.seq ?_)))))))))))
 obtain ⟨r1,hr1,h⟩:=bind_of h
 refine rb [] 4 ⟨[(1000000,1010060),(1010060,1010061),(1010061,1010062),(1010062,1010063)],[(1000000,1010060),(1010060,1010061),(1010061,1010062),(1010062,1010063)],[.own 1000000 0],(qf5 1000000 1010060 1010061 1010062 h0.f_Store),rs22 r1.1,(qf5 1000000 1010060 1010061 1010062 r1.2)⟩ [2] [1000000,1010060,1010061,1010062,1010063] [(2,rs22 r1.1)] ((1000000,139,[.own 1010060 0,rs25 h0.f_plan.f_l,vi h0.f_plan.f_more,vi h0.f_now])::qf5 1010060 1010061 1010062 1010063 r1.2) ((ok_store_Store_Vols__o0 n h0.f_Store _ hr1)) (To.thenN (Wp.ret ?_))
 cases h
 exact To.doneB hΓ [1000000,1010060,1010061,1010062,1010063] (by kernel_rfl) (by kernel_rfl)
end Go.Proofs.YtaecmkldkljioaaGreat.M
