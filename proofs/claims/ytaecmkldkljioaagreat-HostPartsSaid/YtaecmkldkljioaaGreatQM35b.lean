import Derived.Test.YtaecmkldkljioaaGreatQM35a
set_option linter.all false
namespace Go.Proofs.YtaecmkldkljioaaGreat.M
open Go.RowKit Go.Proofs.YtaecmkldkljioaaGreat.RX
set_option maxRecDepth 100000
abbrev ex11 (x0:S_api_Call) (x1:S_store_Store):=((4,40,(E_api_Call x0))::qf5 1000000 1010060 1010061 1010062 x1)
abbrev ex12 (x0:S_store_Store):=(qf5 1000000 1010060 1010061 1010062 x0)
theorem ok_store_Store_change__o0_j1 (v2:Int) (v24:Int) (b4:S_api_Call) (b8:S_life_Box) (b1000000:S_store_Store) (o:Sum (Int × S_life_Box × S_store_Store) (Int × Int × S_store_Store)) (h:store_Store_change__o0_j1 v2 v24 b4 b8 b1000000 = o) {F0:Fz} {w0:Pt Tryz.prog} {Q:Exit → Act → World → Prop} (hQ:(Sum.elim (fun s=>To 63 F0 w0 [(0,.own 1000000 0),(4,.own 4 0),(8,.own 8 0),(10,vi s.1)] ((4,40,(E_api_Call b4))::(8,53,qc8 s.2.1)::qf5 1000000 1010060 1010061 1010062 s.2.2) .normal Q) (fun s=>To 63 F0 w0 [(6,vi s.1),(7,vi s.2.1)] (qf5 1000000 1010060 1010061 1010062 s.2.2) .ret Q)) o):Wp Tryz.prog 63 F0 w0 [(0,.own 1000000 0),(2,vi v2),(4,.own 4 0),(8,.own 8 0),(24,vi v24)] ((4,40,(E_api_Call b4))::(8,53,(E_life_Box b8))::qf5 1000000 1010060 1010061 1010062 b1000000) (cB (cA (cB (cB (cB (cB (cF Tryz.f55))))))) Q:=by
 unfold store_Store_change__o0_j1 at h
 refine Wp.block (Wp.seq (rg [0,2,4,8,24,36] [4,8,1000000,1010060,1010061,1010062] [(0,.own 1000000 0),(2,vi v2),(4,.own 4 0),(8,.own 8 0),(24,vi v24),(36,vb (v24 == 6))] ((4,40,(E_api_Call b4))::(8,53,(E_life_Box b8))::qf5 1000000 1010060 1010061 1010062 b1000000) (To.thenN (cn h (fun h=>?_) (fun h=>?_)))))
 ·obtain ⟨r1,hr1,h⟩:=lett_of h
  refine rc [] 2 [0,4,8,10] [4,8,1000000,1010060,1010061,1010062] [(0,.own 1000000 0),(4,.own 4 0),(8,.own 8 0),(10,vi r1.2)] ((4,40,(E_api_Call b4))::(8,53,(E_life_Box r1.1))::qf5 1000000 1010060 1010061 1010062 b1000000) (ok_life_Start b8 v2 _ hr1) (To.blockN ?_)
  cases h
  exact hQ
 ·refine Wp.seq (rg [0,4,8,44] [4,8,1000000,1010060,1010061,1010062] [(0,.own 1000000 0),(4,.own 4 0),(8,.own 8 0),(44,vb (v24 == 7))] ((4,40,(E_api_Call b4))::(8,53,(E_life_Box b8))::qf5 1000000 1010060 1010061 1010062 b1000000) (To.thenN (cn h (fun h=>?_) (fun h=>?_))))
  ·obtain ⟨r2,hr2,h⟩:=lett_of h
   refine rc [] 1 [0,4,8,10] [4,8,1000000,1010060,1010061,1010062] [(0,.own 1000000 0),(4,.own 4 0),(8,.own 8 0),(10,vi r2.2)] ((4,40,(E_api_Call b4))::(8,53,(E_life_Box r2.1))::qf5 1000000 1010060 1010061 1010062 b1000000) (ok_life_Stop b8 _ hr2) (To.blockN ?_)
   cases h
   exact hQ
  ·refine Wp.seq (Wp.seq (rg [0,4,27] [4,1000000,1010060,1010061,1010062] [(0,.own 1000000 0),(4,.own 4 0),(27,vb (b8.f_State == 2))] (ex11 b4 b1000000) (To.thenN (cn h (fun h=>?_) (fun h=>?_)))))
   ·refine Wp.seq (rg [6,7] [1000000,1010060,1010061,1010062] [(6,vi 0),(7,vi 13)] (ex12 b1000000) (To.thenN (Wp.ret (To.thenR (To.blockR ?_)))))
    cases h
    exact hQ
   ·refine Wp.skip (To.thenN (Wp.seq (Wp.regionO hm hΓ [] [] [] [0,4,27,28,29,30,31,32,33] [4,1000000,1010060,1010061,1010062] [4] [4,1000000,1010060,1010061,1010062] (K':=[(4,.own 4 0)]) (L':=[(4,40,(E_api_Call b4)),(ex5 b1000000),(1010060,105,[mc3 (mdel b1000000.f_boxes (.inr b4.f_Id))]),(ex6 b1000000),(ex7 b1000000)]) (ob:=[]) (by kernel_rfl) (by kernel_rfl) AllP.nil (To.thenN (Wp.seq (rg [6,7] [1000000,1010060,1010061,1010062] [(6,vi b4.f_Id),(7,vi 0)] [(ex5 b1000000),(1010060,105,[mc3 (mdel b1000000.f_boxes (.inr b4.f_Id))]),(ex6 b1000000),(ex7 b1000000)] (To.thenN (Wp.ret (To.blockR ?_)))))))))
    cases h
    exact hQ
def store_Store_change__o0 (a1:S_api_Call) (a2:Int) (h0:S_store_Store):Int × Int × S_store_Store :=
 if (!((mlook h0.f_boxes (.inr a1.f_Id)).isSome)) = true then ((0,12,h0))
 else (lett (store_Store_change__o0_j1 a2 a1.f_Kind a1 (S_life_Box.mk (S_api_Spec.mk (((mlook h0.f_boxes (.inr a1.f_Id)).getD Z_life_Box).f_Spec.f_Name) (((mlook h0.f_boxes (.inr a1.f_Id)).getD Z_life_Box).f_Spec.f_Project) (((mlook h0.f_boxes (.inr a1.f_Id)).getD Z_life_Box).f_Spec.f_Service) (((mlook h0.f_boxes (.inr a1.f_Id)).getD Z_life_Box).f_Spec.f_Number) (((mlook h0.f_boxes (.inr a1.f_Id)).getD Z_life_Box).f_Spec.f_Hash) (((mlook h0.f_boxes (.inr a1.f_Id)).getD Z_life_Box).f_Spec.f_Nets) (((mlook h0.f_boxes (.inr a1.f_Id)).getD Z_life_Box).f_Spec.f_Vols) (S_api_Check.mk (((mlook h0.f_boxes (.inr a1.f_Id)).getD Z_life_Box).f_Spec.f_Health.f_Test) (((mlook h0.f_boxes (.inr a1.f_Id)).getD Z_life_Box).f_Spec.f_Health.f_Every) (((mlook h0.f_boxes (.inr a1.f_Id)).getD Z_life_Box).f_Spec.f_Health.f_Start) (((mlook h0.f_boxes (.inr a1.f_Id)).getD Z_life_Box).f_Spec.f_Health.f_Retries)) (((mlook h0.f_boxes (.inr a1.f_Id)).getD Z_life_Box).f_Spec.f_Restart) (((mlook h0.f_boxes (.inr a1.f_Id)).getD Z_life_Box).f_Spec.f_Tries)) (((mlook h0.f_boxes (.inr a1.f_Id)).getD Z_life_Box).f_Id) (((mlook h0.f_boxes (.inr a1.f_Id)).getD Z_life_Box).f_State) (((mlook h0.f_boxes (.inr a1.f_Id)).getD Z_life_Box).f_Code) (((mlook h0.f_boxes (.inr a1.f_Id)).getD Z_life_Box).f_Runs) (((mlook h0.f_boxes (.inr a1.f_Id)).getD Z_life_Box).f_Done) (((mlook h0.f_boxes (.inr a1.f_Id)).getD Z_life_Box).f_At) (((mlook h0.f_boxes (.inr a1.f_Id)).getD Z_life_Box).f_ByHand) (((mlook h0.f_boxes (.inr a1.f_Id)).getD Z_life_Box).f_Sick) (S_probe_State.mk (((mlook h0.f_boxes (.inr a1.f_Id)).getD Z_life_Box).f_Probe.f_Health) (((mlook h0.f_boxes (.inr a1.f_Id)).getD Z_life_Box).f_Probe.f_Fails) (((mlook h0.f_boxes (.inr a1.f_Id)).getD Z_life_Box).f_Probe.f_Began) (((mlook h0.f_boxes (.inr a1.f_Id)).getD Z_life_Box).f_Probe.f_Next))) h0) fun o1 =>
 (Sum.elim (fun o1=>if (o1.1 != 0) = true then ((0,o1.1,o1.2.2))
 else ((a1.f_Id,0,(S_store_Store.mk (mput o1.2.2.f_boxes (.inr a1.f_Id) o1.2.1) o1.2.2.f_nets o1.2.2.f_vols o1.2.2.f_last)))) (fun o1=>(o1.1,o1.2.1,o1.2.2))) o1)
theorem ok_store_Store_change__o0 (a1:S_api_Call) (a2:Int) (h0:S_store_Store) (r:Int × Int × S_store_Store) (h:store_Store_change__o0 a1 a2 h0 = r):CallsB Tryz.prog 55 [.own 1000000 0,.agg (qc6 a1),vi a2] (qf5 1000000 1010060 1010061 1010062 h0) (.tup [vi r.1,vi r.2.1]) (qf5 1000000 1010060 1010061 1010062 r.2.2):=by
 unfold store_Store_change__o0 at h
 refine bo Tryz.f55 rfl fun F0 w0=>?_
 refine Wp.seq (rg [0,2,4] [4,1000000,1010060,1010061,1010062] [(0,.own 1000000 0),(2,vi a2),(4,.own 4 0)] ((4,40,(E_api_Call a1))::qf5 1000000 1010060 1010061 1010062 h0) (To.thenN (Wp.seq (Wp.regionO hm hΓ [] [(6,.tup [.agg [.str (((mlook h0.f_boxes (.inr a1.f_Id)).getD Z_life_Box).f_Spec.f_Name),.str (((mlook h0.f_boxes (.inr a1.f_Id)).getD Z_life_Box).f_Spec.f_Project),.str (((mlook h0.f_boxes (.inr a1.f_Id)).getD Z_life_Box).f_Spec.f_Service),vi (((mlook h0.f_boxes (.inr a1.f_Id)).getD Z_life_Box).f_Spec.f_Number),.str (((mlook h0.f_boxes (.inr a1.f_Id)).getD Z_life_Box).f_Spec.f_Hash),ls (((mlook h0.f_boxes (.inr a1.f_Id)).getD Z_life_Box).f_Spec.f_Nets),ls (((mlook h0.f_boxes (.inr a1.f_Id)).getD Z_life_Box).f_Spec.f_Vols),.str (((mlook h0.f_boxes (.inr a1.f_Id)).getD Z_life_Box).f_Spec.f_Health.f_Test),vi (((mlook h0.f_boxes (.inr a1.f_Id)).getD Z_life_Box).f_Spec.f_Health.f_Every),vi (((mlook h0.f_boxes (.inr a1.f_Id)).getD Z_life_Box).f_Spec.f_Health.f_Start),vi (((mlook h0.f_boxes (.inr a1.f_Id)).getD Z_life_Box).f_Spec.f_Health.f_Retries),vi (((mlook h0.f_boxes (.inr a1.f_Id)).getD Z_life_Box).f_Spec.f_Restart),vi (((mlook h0.f_boxes (.inr a1.f_Id)).getD Z_life_Box).f_Spec.f_Tries),vi (((mlook h0.f_boxes (.inr a1.f_Id)).getD Z_life_Box).f_Id),vi (((mlook h0.f_boxes (.inr a1.f_Id)).getD Z_life_Box).f_State),vi (((mlook h0.f_boxes (.inr a1.f_Id)).getD Z_life_Box).f_Code),vi (((mlook h0.f_boxes (.inr a1.f_Id)).getD Z_life_Box).f_Runs),vi (((mlook h0.f_boxes (.inr a1.f_Id)).getD Z_life_Box).f_Done),vi (((mlook h0.f_boxes (.inr a1.f_Id)).getD Z_life_Box).f_At),vb (((mlook h0.f_boxes (.inr a1.f_Id)).getD Z_life_Box).f_ByHand),vb (((mlook h0.f_boxes (.inr a1.f_Id)).getD Z_life_Box).f_Sick),vi (((mlook h0.f_boxes (.inr a1.f_Id)).getD Z_life_Box).f_Probe.f_Health),vi (((mlook h0.f_boxes (.inr a1.f_Id)).getD Z_life_Box).f_Probe.f_Fails),vi (((mlook h0.f_boxes (.inr a1.f_Id)).getD Z_life_Box).f_Probe.f_Began),vi (((mlook h0.f_boxes (.inr a1.f_Id)).getD Z_life_Box).f_Probe.f_Next)],vb ((mlook h0.f_boxes (.inr a1.f_Id)).isSome)])] [] [0,2,4,8,9,11,12,13,14,15,16,17,18,19,20] [4,8,1000000,1010060,1010061,1010062] [0,2,4,8,9] [4,8,1000000,1010060,1010061,1010062] (K':=[(0,.own 1000000 0),(2,vi a2),(4,.own 4 0),(8,.own 8 0),(9,vb ((mlook h0.f_boxes (.inr a1.f_Id)).isSome))]) (L':=((4,40,(E_api_Call a1))::(8,53,[.str (((mlook h0.f_boxes (.inr a1.f_Id)).getD Z_life_Box).f_Spec.f_Name),.str (((mlook h0.f_boxes (.inr a1.f_Id)).getD Z_life_Box).f_Spec.f_Project),.str (((mlook h0.f_boxes (.inr a1.f_Id)).getD Z_life_Box).f_Spec.f_Service),vi (((mlook h0.f_boxes (.inr a1.f_Id)).getD Z_life_Box).f_Spec.f_Number),.str (((mlook h0.f_boxes (.inr a1.f_Id)).getD Z_life_Box).f_Spec.f_Hash),ls (((mlook h0.f_boxes (.inr a1.f_Id)).getD Z_life_Box).f_Spec.f_Nets),ls (((mlook h0.f_boxes (.inr a1.f_Id)).getD Z_life_Box).f_Spec.f_Vols),.str (((mlook h0.f_boxes (.inr a1.f_Id)).getD Z_life_Box).f_Spec.f_Health.f_Test),vi (((mlook h0.f_boxes (.inr a1.f_Id)).getD Z_life_Box).f_Spec.f_Health.f_Every),vi (((mlook h0.f_boxes (.inr a1.f_Id)).getD Z_life_Box).f_Spec.f_Health.f_Start),vi (((mlook h0.f_boxes (.inr a1.f_Id)).getD Z_life_Box).f_Spec.f_Health.f_Retries),vi (((mlook h0.f_boxes (.inr a1.f_Id)).getD Z_life_Box).f_Spec.f_Restart),vi (((mlook h0.f_boxes (.inr a1.f_Id)).getD Z_life_Box).f_Spec.f_Tries),vi (((mlook h0.f_boxes (.inr a1.f_Id)).getD Z_life_Box).f_Id),vi (((mlook h0.f_boxes (.inr a1.f_Id)).getD Z_life_Box).f_State),vi (((mlook h0.f_boxes (.inr a1.f_Id)).getD Z_life_Box).f_Code),vi (((mlook h0.f_boxes (.inr a1.f_Id)).getD Z_life_Box).f_Runs),vi (((mlook h0.f_boxes (.inr a1.f_Id)).getD Z_life_Box).f_Done),vi (((mlook h0.f_boxes (.inr a1.f_Id)).getD Z_life_Box).f_At),vb (((mlook h0.f_boxes (.inr a1.f_Id)).getD Z_life_Box).f_ByHand),vb (((mlook h0.f_boxes (.inr a1.f_Id)).getD Z_life_Box).f_Sick),vi (((mlook h0.f_boxes (.inr a1.f_Id)).getD Z_life_Box).f_Probe.f_Health),vi (((mlook h0.f_boxes (.inr a1.f_Id)).getD Z_life_Box).f_Probe.f_Fails),vi (((mlook h0.f_boxes (.inr a1.f_Id)).getD Z_life_Box).f_Probe.f_Began),vi (((mlook h0.f_boxes (.inr a1.f_Id)).getD Z_life_Box).f_Probe.f_Next)])::qf5 1000000 1010060 1010061 1010062 h0)) (ob:=[(true = true → LookOkOb true E_life_Box h0.f_boxes (.inr a1.f_Id) [.str [],.str [],.str [],vi 0,.str [],.val (.slice none 0 0),.val (.slice none 0 0),.str [],vi 0,vi 0,vi 0,vi 0,vi 0,vi 0,vi 0,vi 0,vi 0,vi 0,vi 0,vb false,vb false,vi 0,vi 0,vi 0,vi 0] (.tup [.agg [.str (((mlook h0.f_boxes (.inr a1.f_Id)).getD Z_life_Box).f_Spec.f_Name),.str (((mlook h0.f_boxes (.inr a1.f_Id)).getD Z_life_Box).f_Spec.f_Project),.str (((mlook h0.f_boxes (.inr a1.f_Id)).getD Z_life_Box).f_Spec.f_Service),vi (((mlook h0.f_boxes (.inr a1.f_Id)).getD Z_life_Box).f_Spec.f_Number),.str (((mlook h0.f_boxes (.inr a1.f_Id)).getD Z_life_Box).f_Spec.f_Hash),ls (((mlook h0.f_boxes (.inr a1.f_Id)).getD Z_life_Box).f_Spec.f_Nets),ls (((mlook h0.f_boxes (.inr a1.f_Id)).getD Z_life_Box).f_Spec.f_Vols),.str (((mlook h0.f_boxes (.inr a1.f_Id)).getD Z_life_Box).f_Spec.f_Health.f_Test),vi (((mlook h0.f_boxes (.inr a1.f_Id)).getD Z_life_Box).f_Spec.f_Health.f_Every),vi (((mlook h0.f_boxes (.inr a1.f_Id)).getD Z_life_Box).f_Spec.f_Health.f_Start),vi (((mlook h0.f_boxes (.inr a1.f_Id)).getD Z_life_Box).f_Spec.f_Health.f_Retries),vi (((mlook h0.f_boxes (.inr a1.f_Id)).getD Z_life_Box).f_Spec.f_Restart),vi (((mlook h0.f_boxes (.inr a1.f_Id)).getD Z_life_Box).f_Spec.f_Tries),vi (((mlook h0.f_boxes (.inr a1.f_Id)).getD Z_life_Box).f_Id),vi (((mlook h0.f_boxes (.inr a1.f_Id)).getD Z_life_Box).f_State),vi (((mlook h0.f_boxes (.inr a1.f_Id)).getD Z_life_Box).f_Code),vi (((mlook h0.f_boxes (.inr a1.f_Id)).getD Z_life_Box).f_Runs),vi (((mlook h0.f_boxes (.inr a1.f_Id)).getD Z_life_Box).f_Done),vi (((mlook h0.f_boxes (.inr a1.f_Id)).getD Z_life_Box).f_At),vb (((mlook h0.f_boxes (.inr a1.f_Id)).getD Z_life_Box).f_ByHand),vb (((mlook h0.f_boxes (.inr a1.f_Id)).getD Z_life_Box).f_Sick),vi (((mlook h0.f_boxes (.inr a1.f_Id)).getD Z_life_Box).f_Probe.f_Health),vi (((mlook h0.f_boxes (.inr a1.f_Id)).getD Z_life_Box).f_Probe.f_Fails),vi (((mlook h0.f_boxes (.inr a1.f_Id)).getD Z_life_Box).f_Probe.f_Began),vi (((mlook h0.f_boxes (.inr a1.f_Id)).getD Z_life_Box).f_Probe.f_Next)],vb ((mlook h0.f_boxes (.inr a1.f_Id)).isSome)]))]) (by kernel_rfl) (by kernel_rfl) (AllP.cons (fun _=>⟨Z_life_Box,.agg [.str (((mlook h0.f_boxes (.inr a1.f_Id)).getD Z_life_Box).f_Spec.f_Name),.str (((mlook h0.f_boxes (.inr a1.f_Id)).getD Z_life_Box).f_Spec.f_Project),.str (((mlook h0.f_boxes (.inr a1.f_Id)).getD Z_life_Box).f_Spec.f_Service),vi (((mlook h0.f_boxes (.inr a1.f_Id)).getD Z_life_Box).f_Spec.f_Number),.str (((mlook h0.f_boxes (.inr a1.f_Id)).getD Z_life_Box).f_Spec.f_Hash),ls (((mlook h0.f_boxes (.inr a1.f_Id)).getD Z_life_Box).f_Spec.f_Nets),ls (((mlook h0.f_boxes (.inr a1.f_Id)).getD Z_life_Box).f_Spec.f_Vols),.str (((mlook h0.f_boxes (.inr a1.f_Id)).getD Z_life_Box).f_Spec.f_Health.f_Test),vi (((mlook h0.f_boxes (.inr a1.f_Id)).getD Z_life_Box).f_Spec.f_Health.f_Every),vi (((mlook h0.f_boxes (.inr a1.f_Id)).getD Z_life_Box).f_Spec.f_Health.f_Start),vi (((mlook h0.f_boxes (.inr a1.f_Id)).getD Z_life_Box).f_Spec.f_Health.f_Retries),vi (((mlook h0.f_boxes (.inr a1.f_Id)).getD Z_life_Box).f_Spec.f_Restart),vi (((mlook h0.f_boxes (.inr a1.f_Id)).getD Z_life_Box).f_Spec.f_Tries),vi (((mlook h0.f_boxes (.inr a1.f_Id)).getD Z_life_Box).f_Id),vi (((mlook h0.f_boxes (.inr a1.f_Id)).getD Z_life_Box).f_State),vi (((mlook h0.f_boxes (.inr a1.f_Id)).getD Z_life_Box).f_Code),vi (((mlook h0.f_boxes (.inr a1.f_Id)).getD Z_life_Box).f_Runs),vi (((mlook h0.f_boxes (.inr a1.f_Id)).getD Z_life_Box).f_Done),vi (((mlook h0.f_boxes (.inr a1.f_Id)).getD Z_life_Box).f_At),vb (((mlook h0.f_boxes (.inr a1.f_Id)).getD Z_life_Box).f_ByHand),vb (((mlook h0.f_boxes (.inr a1.f_Id)).getD Z_life_Box).f_Sick),vi (((mlook h0.f_boxes (.inr a1.f_Id)).getD Z_life_Box).f_Probe.f_Health),vi (((mlook h0.f_boxes (.inr a1.f_Id)).getD Z_life_Box).f_Probe.f_Fails),vi (((mlook h0.f_boxes (.inr a1.f_Id)).getD Z_life_Box).f_Probe.f_Began),vi (((mlook h0.f_boxes (.inr a1.f_Id)).getD Z_life_Box).f_Probe.f_Next)],weaks_eq (ds:=[.str [],.str [],.str [],vi 0,.str [],.val (.slice none 0 0),.val (.slice none 0 0),.str [],vi 0,vi 0,vi 0,vi 0,vi 0,vi 0,vi 0,vi 0,vi 0,vi 0,vi 0,vb false,vb false,vi 0,vi 0,vi 0,vi 0]) (es:=[.str [],.str [],.str [],vi 0,.str [],ls [],ls [],.str [],vi 0,vi 0,vi 0,vi 0,vi 0,vi 0,vi 0,vi 0,vi 0,vi 0,vi 0,vb false,vb false,vi 0,vi 0,vi 0,vi 0]) (by kernel_rfl) (.cons (.refl _) (.cons (.refl _) (.cons (.refl _) (.cons (.refl _) (.cons (.refl _) (.cons (.zero _ _) (.cons (.zero _ _) (.cons (.refl _) (.cons (.refl _) (.cons (.refl _) (.cons (.refl _) (.cons (.refl _) (.cons (.refl _) (.cons (.refl _) (.cons (.refl _) (.cons (.refl _) (.cons (.refl _) (.cons (.refl _) (.cons (.refl _) (.cons (.refl _) (.cons (.refl _) (.cons (.refl _) (.cons (.refl _) (.cons (.refl _) (.cons (.refl _) .nil))))))))))))))))))))))))) (by kernel_rfl),by kernel_rfl,by kernel_rfl⟩) AllP.nil) ?_))))
 refine To.thenN (Wp.seq (Wp.seq (rg [0,2,4,8,22] [4,8,1000000,1010060,1010061,1010062] [(0,.own 1000000 0),(2,vi a2),(4,.own 4 0),(8,.own 8 0),(22,vb (!((mlook h0.f_boxes (.inr a1.f_Id)).isSome)))] ((4,40,(E_api_Call a1))::(8,53,[.str (((mlook h0.f_boxes (.inr a1.f_Id)).getD Z_life_Box).f_Spec.f_Name),.str (((mlook h0.f_boxes (.inr a1.f_Id)).getD Z_life_Box).f_Spec.f_Project),.str (((mlook h0.f_boxes (.inr a1.f_Id)).getD Z_life_Box).f_Spec.f_Service),vi (((mlook h0.f_boxes (.inr a1.f_Id)).getD Z_life_Box).f_Spec.f_Number),.str (((mlook h0.f_boxes (.inr a1.f_Id)).getD Z_life_Box).f_Spec.f_Hash),ls (((mlook h0.f_boxes (.inr a1.f_Id)).getD Z_life_Box).f_Spec.f_Nets),ls (((mlook h0.f_boxes (.inr a1.f_Id)).getD Z_life_Box).f_Spec.f_Vols),.str (((mlook h0.f_boxes (.inr a1.f_Id)).getD Z_life_Box).f_Spec.f_Health.f_Test),vi (((mlook h0.f_boxes (.inr a1.f_Id)).getD Z_life_Box).f_Spec.f_Health.f_Every),vi (((mlook h0.f_boxes (.inr a1.f_Id)).getD Z_life_Box).f_Spec.f_Health.f_Start),vi (((mlook h0.f_boxes (.inr a1.f_Id)).getD Z_life_Box).f_Spec.f_Health.f_Retries),vi (((mlook h0.f_boxes (.inr a1.f_Id)).getD Z_life_Box).f_Spec.f_Restart),vi (((mlook h0.f_boxes (.inr a1.f_Id)).getD Z_life_Box).f_Spec.f_Tries),vi (((mlook h0.f_boxes (.inr a1.f_Id)).getD Z_life_Box).f_Id),vi (((mlook h0.f_boxes (.inr a1.f_Id)).getD Z_life_Box).f_State),vi (((mlook h0.f_boxes (.inr a1.f_Id)).getD Z_life_Box).f_Code),vi (((mlook h0.f_boxes (.inr a1.f_Id)).getD Z_life_Box).f_Runs),vi (((mlook h0.f_boxes (.inr a1.f_Id)).getD Z_life_Box).f_Done),vi (((mlook h0.f_boxes (.inr a1.f_Id)).getD Z_life_Box).f_At),vb (((mlook h0.f_boxes (.inr a1.f_Id)).getD Z_life_Box).f_ByHand),vb (((mlook h0.f_boxes (.inr a1.f_Id)).getD Z_life_Box).f_Sick),vi (((mlook h0.f_boxes (.inr a1.f_Id)).getD Z_life_Box).f_Probe.f_Health),vi (((mlook h0.f_boxes (.inr a1.f_Id)).getD Z_life_Box).f_Probe.f_Fails),vi (((mlook h0.f_boxes (.inr a1.f_Id)).getD Z_life_Box).f_Probe.f_Began),vi (((mlook h0.f_boxes (.inr a1.f_Id)).getD Z_life_Box).f_Probe.f_Next)])::qf5 1000000 1010060 1010061 1010062 h0) (To.thenN (cn h (fun h=>?_) (fun h=>?_))))))
 ·refine Wp.seq (rg [6,7] [1000000,1010060,1010061,1010062] [(6,vi 0),(7,vi 12)] (qf5 1000000 1010060 1010061 1010062 h0) (To.thenN (Wp.ret (To.thenR ?_))))
  cases h
  exact To.doneB hΓ [1000000,1010060,1010061,1010062] (by kernel_rfl) (by kernel_rfl)
 ·refine Wp.skip (To.thenN (Wp.seq (rg [0,2,4,8] [4,8,1000000,1010060,1010061,1010062] [(0,.own 1000000 0),(2,vi a2),(4,.own 4 0),(8,.own 8 0)] ((4,40,(E_api_Call a1))::(8,53,[.str (((mlook h0.f_boxes (.inr a1.f_Id)).getD Z_life_Box).f_Spec.f_Name),.str (((mlook h0.f_boxes (.inr a1.f_Id)).getD Z_life_Box).f_Spec.f_Project),.str (((mlook h0.f_boxes (.inr a1.f_Id)).getD Z_life_Box).f_Spec.f_Service),vi (((mlook h0.f_boxes (.inr a1.f_Id)).getD Z_life_Box).f_Spec.f_Number),.str (((mlook h0.f_boxes (.inr a1.f_Id)).getD Z_life_Box).f_Spec.f_Hash),ls (((mlook h0.f_boxes (.inr a1.f_Id)).getD Z_life_Box).f_Spec.f_Nets),ls (((mlook h0.f_boxes (.inr a1.f_Id)).getD Z_life_Box).f_Spec.f_Vols),.str (((mlook h0.f_boxes (.inr a1.f_Id)).getD Z_life_Box).f_Spec.f_Health.f_Test),vi (((mlook h0.f_boxes (.inr a1.f_Id)).getD Z_life_Box).f_Spec.f_Health.f_Every),vi (((mlook h0.f_boxes (.inr a1.f_Id)).getD Z_life_Box).f_Spec.f_Health.f_Start),vi (((mlook h0.f_boxes (.inr a1.f_Id)).getD Z_life_Box).f_Spec.f_Health.f_Retries),vi (((mlook h0.f_boxes (.inr a1.f_Id)).getD Z_life_Box).f_Spec.f_Restart),vi (((mlook h0.f_boxes (.inr a1.f_Id)).getD Z_life_Box).f_Spec.f_Tries),vi (((mlook h0.f_boxes (.inr a1.f_Id)).getD Z_life_Box).f_Id),vi (((mlook h0.f_boxes (.inr a1.f_Id)).getD Z_life_Box).f_State),vi (((mlook h0.f_boxes (.inr a1.f_Id)).getD Z_life_Box).f_Code),vi (((mlook h0.f_boxes (.inr a1.f_Id)).getD Z_life_Box).f_Runs),vi (((mlook h0.f_boxes (.inr a1.f_Id)).getD Z_life_Box).f_Done),vi (((mlook h0.f_boxes (.inr a1.f_Id)).getD Z_life_Box).f_At),vb (((mlook h0.f_boxes (.inr a1.f_Id)).getD Z_life_Box).f_ByHand),vb (((mlook h0.f_boxes (.inr a1.f_Id)).getD Z_life_Box).f_Sick),vi (((mlook h0.f_boxes (.inr a1.f_Id)).getD Z_life_Box).f_Probe.f_Health),vi (((mlook h0.f_boxes (.inr a1.f_Id)).getD Z_life_Box).f_Probe.f_Fails),vi (((mlook h0.f_boxes (.inr a1.f_Id)).getD Z_life_Box).f_Probe.f_Began),vi (((mlook h0.f_boxes (.inr a1.f_Id)).getD Z_life_Box).f_Probe.f_Next)])::qf5 1000000 1010060 1010061 1010062 h0) (To.thenN (Wp.seq (Wp.seq (rg [0,2,4,8,24] [4,8,1000000,1010060,1010061,1010062] [(0,.own 1000000 0),(2,vi a2),(4,.own 4 0),(8,.own 8 0),(24,vi a1.f_Kind)] ((4,40,(E_api_Call a1))::(8,53,[.str (((mlook h0.f_boxes (.inr a1.f_Id)).getD Z_life_Box).f_Spec.f_Name),.str (((mlook h0.f_boxes (.inr a1.f_Id)).getD Z_life_Box).f_Spec.f_Project),.str (((mlook h0.f_boxes (.inr a1.f_Id)).getD Z_life_Box).f_Spec.f_Service),vi (((mlook h0.f_boxes (.inr a1.f_Id)).getD Z_life_Box).f_Spec.f_Number),.str (((mlook h0.f_boxes (.inr a1.f_Id)).getD Z_life_Box).f_Spec.f_Hash),ls (((mlook h0.f_boxes (.inr a1.f_Id)).getD Z_life_Box).f_Spec.f_Nets),ls (((mlook h0.f_boxes (.inr a1.f_Id)).getD Z_life_Box).f_Spec.f_Vols),.str (((mlook h0.f_boxes (.inr a1.f_Id)).getD Z_life_Box).f_Spec.f_Health.f_Test),vi (((mlook h0.f_boxes (.inr a1.f_Id)).getD Z_life_Box).f_Spec.f_Health.f_Every),vi (((mlook h0.f_boxes (.inr a1.f_Id)).getD Z_life_Box).f_Spec.f_Health.f_Start),vi (((mlook h0.f_boxes (.inr a1.f_Id)).getD Z_life_Box).f_Spec.f_Health.f_Retries),vi (((mlook h0.f_boxes (.inr a1.f_Id)).getD Z_life_Box).f_Spec.f_Restart),vi (((mlook h0.f_boxes (.inr a1.f_Id)).getD Z_life_Box).f_Spec.f_Tries),vi (((mlook h0.f_boxes (.inr a1.f_Id)).getD Z_life_Box).f_Id),vi (((mlook h0.f_boxes (.inr a1.f_Id)).getD Z_life_Box).f_State),vi (((mlook h0.f_boxes (.inr a1.f_Id)).getD Z_life_Box).f_Code),vi (((mlook h0.f_boxes (.inr a1.f_Id)).getD Z_life_Box).f_Runs),vi (((mlook h0.f_boxes (.inr a1.f_Id)).getD Z_life_Box).f_Done),vi (((mlook h0.f_boxes (.inr a1.f_Id)).getD Z_life_Box).f_At),vb (((mlook h0.f_boxes (.inr a1.f_Id)).getD Z_life_Box).f_ByHand),vb (((mlook h0.f_boxes (.inr a1.f_Id)).getD Z_life_Box).f_Sick),vi (((mlook h0.f_boxes (.inr a1.f_Id)).getD Z_life_Box).f_Probe.f_Health),vi (((mlook h0.f_boxes (.inr a1.f_Id)).getD Z_life_Box).f_Probe.f_Fails),vi (((mlook h0.f_boxes (.inr a1.f_Id)).getD Z_life_Box).f_Probe.f_Began),vi (((mlook h0.f_boxes (.inr a1.f_Id)).getD Z_life_Box).f_Probe.f_Next)])::qf5 1000000 1010060 1010061 1010062 h0) (To.thenN ?_))))))))
  obtain ⟨o1,ho1,h⟩:=lett_of h
  refine kw [0,2,4,8,24] [4,8,1000000,1010060,1010061,1010062] [(0,.own 1000000 0),(2,vi a2),(4,.own 4 0),(8,.own 8 0),(24,vi a1.f_Kind)] ((4,40,(E_api_Call a1))::(8,53,[.str (((mlook h0.f_boxes (.inr a1.f_Id)).getD Z_life_Box).f_Spec.f_Name),.str (((mlook h0.f_boxes (.inr a1.f_Id)).getD Z_life_Box).f_Spec.f_Project),.str (((mlook h0.f_boxes (.inr a1.f_Id)).getD Z_life_Box).f_Spec.f_Service),vi (((mlook h0.f_boxes (.inr a1.f_Id)).getD Z_life_Box).f_Spec.f_Number),.str (((mlook h0.f_boxes (.inr a1.f_Id)).getD Z_life_Box).f_Spec.f_Hash),ls (((mlook h0.f_boxes (.inr a1.f_Id)).getD Z_life_Box).f_Spec.f_Nets),ls (((mlook h0.f_boxes (.inr a1.f_Id)).getD Z_life_Box).f_Spec.f_Vols),.str (((mlook h0.f_boxes (.inr a1.f_Id)).getD Z_life_Box).f_Spec.f_Health.f_Test),vi (((mlook h0.f_boxes (.inr a1.f_Id)).getD Z_life_Box).f_Spec.f_Health.f_Every),vi (((mlook h0.f_boxes (.inr a1.f_Id)).getD Z_life_Box).f_Spec.f_Health.f_Start),vi (((mlook h0.f_boxes (.inr a1.f_Id)).getD Z_life_Box).f_Spec.f_Health.f_Retries),vi (((mlook h0.f_boxes (.inr a1.f_Id)).getD Z_life_Box).f_Spec.f_Restart),vi (((mlook h0.f_boxes (.inr a1.f_Id)).getD Z_life_Box).f_Spec.f_Tries),vi (((mlook h0.f_boxes (.inr a1.f_Id)).getD Z_life_Box).f_Id),vi (((mlook h0.f_boxes (.inr a1.f_Id)).getD Z_life_Box).f_State),vi (((mlook h0.f_boxes (.inr a1.f_Id)).getD Z_life_Box).f_Code),vi (((mlook h0.f_boxes (.inr a1.f_Id)).getD Z_life_Box).f_Runs),vi (((mlook h0.f_boxes (.inr a1.f_Id)).getD Z_life_Box).f_Done),vi (((mlook h0.f_boxes (.inr a1.f_Id)).getD Z_life_Box).f_At),vb (((mlook h0.f_boxes (.inr a1.f_Id)).getD Z_life_Box).f_ByHand),vb (((mlook h0.f_boxes (.inr a1.f_Id)).getD Z_life_Box).f_Sick),vi (((mlook h0.f_boxes (.inr a1.f_Id)).getD Z_life_Box).f_Probe.f_Health),vi (((mlook h0.f_boxes (.inr a1.f_Id)).getD Z_life_Box).f_Probe.f_Fails),vi (((mlook h0.f_boxes (.inr a1.f_Id)).getD Z_life_Box).f_Probe.f_Began),vi (((mlook h0.f_boxes (.inr a1.f_Id)).getD Z_life_Box).f_Probe.f_Next)])::qf5 1000000 1010060 1010061 1010062 h0) (ok_store_Store_change__o0_j1 a2 a1.f_Kind a1 (S_life_Box.mk (S_api_Spec.mk (((mlook h0.f_boxes (.inr a1.f_Id)).getD Z_life_Box).f_Spec.f_Name) (((mlook h0.f_boxes (.inr a1.f_Id)).getD Z_life_Box).f_Spec.f_Project) (((mlook h0.f_boxes (.inr a1.f_Id)).getD Z_life_Box).f_Spec.f_Service) (((mlook h0.f_boxes (.inr a1.f_Id)).getD Z_life_Box).f_Spec.f_Number) (((mlook h0.f_boxes (.inr a1.f_Id)).getD Z_life_Box).f_Spec.f_Hash) (((mlook h0.f_boxes (.inr a1.f_Id)).getD Z_life_Box).f_Spec.f_Nets) (((mlook h0.f_boxes (.inr a1.f_Id)).getD Z_life_Box).f_Spec.f_Vols) (S_api_Check.mk (((mlook h0.f_boxes (.inr a1.f_Id)).getD Z_life_Box).f_Spec.f_Health.f_Test) (((mlook h0.f_boxes (.inr a1.f_Id)).getD Z_life_Box).f_Spec.f_Health.f_Every) (((mlook h0.f_boxes (.inr a1.f_Id)).getD Z_life_Box).f_Spec.f_Health.f_Start) (((mlook h0.f_boxes (.inr a1.f_Id)).getD Z_life_Box).f_Spec.f_Health.f_Retries)) (((mlook h0.f_boxes (.inr a1.f_Id)).getD Z_life_Box).f_Spec.f_Restart) (((mlook h0.f_boxes (.inr a1.f_Id)).getD Z_life_Box).f_Spec.f_Tries)) (((mlook h0.f_boxes (.inr a1.f_Id)).getD Z_life_Box).f_Id) (((mlook h0.f_boxes (.inr a1.f_Id)).getD Z_life_Box).f_State) (((mlook h0.f_boxes (.inr a1.f_Id)).getD Z_life_Box).f_Code) (((mlook h0.f_boxes (.inr a1.f_Id)).getD Z_life_Box).f_Runs) (((mlook h0.f_boxes (.inr a1.f_Id)).getD Z_life_Box).f_Done) (((mlook h0.f_boxes (.inr a1.f_Id)).getD Z_life_Box).f_At) (((mlook h0.f_boxes (.inr a1.f_Id)).getD Z_life_Box).f_ByHand) (((mlook h0.f_boxes (.inr a1.f_Id)).getD Z_life_Box).f_Sick) (S_probe_State.mk (((mlook h0.f_boxes (.inr a1.f_Id)).getD Z_life_Box).f_Probe.f_Health) (((mlook h0.f_boxes (.inr a1.f_Id)).getD Z_life_Box).f_Probe.f_Fails) (((mlook h0.f_boxes (.inr a1.f_Id)).getD Z_life_Box).f_Probe.f_Began) (((mlook h0.f_boxes (.inr a1.f_Id)).getD Z_life_Box).f_Probe.f_Next))) h0 o1 ho1 ?_)
  rcases o1 with o1 | o1
  ·replace h:=sum_l h
   refine To.thenN (Wp.seq (Wp.seq (rg [0,4,8,10,52] [4,8,1000000,1010060,1010061,1010062] [(0,.own 1000000 0),(4,.own 4 0),(8,.own 8 0),(10,vi o1.1),(52,vb (o1.1 != 0))] ((4,40,(E_api_Call a1))::(8,53,(E_life_Box o1.2.1))::qf5 1000000 1010060 1010061 1010062 o1.2.2) (To.thenN (cn h (fun h=>?_) (fun h=>?_))))))
   ·refine Wp.seq (rg [6,7] [1000000,1010060,1010061,1010062] [(6,vi 0),(7,vi o1.1)] (qf5 1000000 1010060 1010061 1010062 o1.2.2) (To.thenN (Wp.ret (To.thenR ?_))))
    cases h
    exact To.doneB hΓ [1000000,1010060,1010061,1010062] (by kernel_rfl) (by kernel_rfl)
   ·refine Wp.skip (To.thenN (Wp.seq (Wp.regionO hm hΓ [] [(7,mc3 (mput o1.2.2.f_boxes (.inr a1.f_Id) o1.2.1))] [] [0,4,8,10,52,54,55,56,57,58,59,60] [4,8,1000000,1010060,1010061,1010062] [4] [4,1000000,1010060,1010061,1010062] (K':=[(4,.own 4 0)]) (L':=[(4,40,(E_api_Call a1)),(1000000,109,[.mp 1010060,.mp 1010061,.mp 1010062,vi o1.2.2.f_last]),(1010060,105,[mc3 (mput o1.2.2.f_boxes (.inr a1.f_Id) o1.2.1)]),(1010061,107,[mc4 o1.2.2.f_nets]),(1010062,107,[mc4 o1.2.2.f_vols])]) (ob:=[(∃ l':List (MK × S_life_Box),(mc3 (mput o1.2.2.f_boxes (.inr a1.f_Id) o1.2.1):D) = mc3 l' ∧ MsetOb E_life_Box o1.2.2.f_boxes (.inr a1.f_Id) (qc8 o1.2.1) l')]) (by kernel_rfl) (by kernel_rfl) (AllP.cons (⟨_,rfl,o1.2.1,Weaks.of_eq (by kernel_rfl),rfl⟩) AllP.nil) (To.thenN (Wp.seq (rg [6,7] [1000000,1010060,1010061,1010062] [(6,vi a1.f_Id),(7,vi 0)] [(1000000,109,[.mp 1010060,.mp 1010061,.mp 1010062,vi o1.2.2.f_last]),(1010060,105,[mc3 (mput o1.2.2.f_boxes (.inr a1.f_Id) o1.2.1)]),(1010061,107,[mc4 o1.2.2.f_nets]),(1010062,107,[mc4 o1.2.2.f_vols])] (To.thenN (Wp.ret ?_))))))))
    cases h
    exact To.doneB hΓ [1000000,1010060,1010061,1010062] (by kernel_rfl) (by kernel_rfl)
  ·replace h:=sum_r h
   refine To.thenR ?_
   cases h
   exact To.doneB hΓ [1000000,1010060,1010061,1010062] (by kernel_rfl) (by kernel_rfl)
def store_Store_Do__o0_j2 (n:Nat) (v2:Int) (v11:Int) (v56:Bool) (b4:S_api_Call) (b1000000:S_store_Store):Option (Bool) :=
 if v56 = true then some v56
 else (if (v11 == 7) = true then (some (v11 == 7))
 else (some (v11 == 8)))
theorem ok_store_Store_Do__o0_j2 (n:Nat) (v2:Int) (v11:Int) (v56:Bool) (b4:S_api_Call) (b1000000:S_store_Store) (o:Bool) (h:store_Store_Do__o0_j2 n v2 v11 v56 b4 b1000000 = some o) {F0:Fz} {w0:Pt Tryz.prog} {Q:Exit → Act → World → Prop} (hQ:To 66 F0 w0 [(0,.own 1000000 0),(2,vi v2),(4,.own 4 0),(56,vb o)] (ex11 b4 b1000000) .normal Q):Wp Tryz.prog 66 F0 w0 [(0,.own 1000000 0),(2,vi v2),(4,.own 4 0),(11,vi v11),(56,vb v56)] (ex11 b4 b1000000) (cB (cA (cE (cB (cE (cB (cE (cB (cE (cB (cE (cB (cI (cB (cA (cB (cB (cF Tryz.f12)))))))))))))))))) Q:=by
 unfold store_Store_Do__o0_j2 at h
 refine cn h (fun h=>?_) (fun h=>?_)
 ·refine Wp.skip (kt [0,2,4,56] [4,1000000,1010060,1010061,1010062] [(0,.own 1000000 0),(2,vi v2),(4,.own 4 0),(56,vb v56)] (ex11 b4 b1000000) ?_)
  cases h
  exact hQ
 ·refine Wp.seq (rg [0,2,4,11,56] [4,1000000,1010060,1010061,1010062] [(0,.own 1000000 0),(2,vi v2),(4,.own 4 0),(11,vi v11),(56,vb (v11 == 7))] (ex11 b4 b1000000) (To.thenN (cn h (fun h=>?_) (fun h=>?_))))
  ·refine Wp.skip (kt [0,2,4,56] [4,1000000,1010060,1010061,1010062] [(0,.own 1000000 0),(2,vi v2),(4,.own 4 0),(56,vb (v11 == 7))] (ex11 b4 b1000000) ?_)
   cases h
   exact hQ
  ·refine rg [0,2,4,56] [4,1000000,1010060,1010061,1010062] [(0,.own 1000000 0),(2,vi v2),(4,.own 4 0),(56,vb (v11 == 8))] (ex11 b4 b1000000) (kt [0,2,4,56] [4,1000000,1010060,1010061,1010062] [(0,.own 1000000 0),(2,vi v2),(4,.own 4 0),(56,vb (v11 == 8))] (ex11 b4 b1000000) ?_)
   cases h
   exact hQ
def store_Store_Do__o0_j1 (n:Nat) (v2:Int) (v11:Int) (b4:S_api_Call) (b1000000:S_store_Store):Option (Sum (S_store_Store) (Int × Int × S_store_Store)) :=
 if (v11 == 1) = true then (lett (store_put__m0 b4 b1000000.f_nets) fun r1 =>
 some (.inr (0,r1.1,(S_store_Store.mk b1000000.f_boxes r1.2 b1000000.f_vols b1000000.f_last))))
 else (if (v11 == 2) = true then (lett (store_put__m0 b4 b1000000.f_vols) fun r2 =>
 some (.inr (0,r2.1,(S_store_Store.mk b1000000.f_boxes b1000000.f_nets r2.2 b1000000.f_last))))
 else (if (v11 == 3) = true then ((store_Store_drop__o0__m0n61__store_Store_Do_1 n b4.f_Name b1000000).bind fun r3 =>
 some (.inr (0,r3.1,r3.2)))
 else (if (v11 == 4) = true then ((store_Store_drop__o0__m0n62__store_Store_Do_2 n b4.f_Name b1000000).bind fun r4 =>
 some (.inr (0,r4.1,r4.2)))
 else (if (v11 == 5) = true then ((store_Store_make__o0 n b4.f_Spec b1000000).bind fun r5 =>
 some (.inr (r5.1,r5.2.1,r5.2.2)))
 else ((store_Store_Do__o0_j2 n v2 v11 (v11 == 6) b4 b1000000).bind fun o6 =>
 if o6 = true then (lett (store_Store_change__o0 b4 v2 b1000000) fun r7 =>
 some (.inr (r7.1,r7.2.1,r7.2.2)))
 else (some (.inl b1000000)))))))
abbrev ps15 (b c d:Nat) (x:S_store_Store):List (Option (Nat × List D)):=[some (109,[.mp b,.mp c,.mp d,vi x.f_last]),some (105,[mc3 x.f_boxes]),some (107,[mc4 x.f_nets]),some (107,[mc4 x.f_vols])]
theorem ok_store_Store_Do__o0_j1 (n:Nat) (v2:Int) (v11:Int) (b4:S_api_Call) (b1000000:S_store_Store) (o:Sum (S_store_Store) (Int × Int × S_store_Store)) (h:store_Store_Do__o0_j1 n v2 v11 b4 b1000000 = some o) {F0:Fz} {w0:Pt Tryz.prog} {Q:Exit → Act → World → Prop} (hQ:(Sum.elim (fun s=>To 66 F0 w0 [] (qf5 1000000 1010060 1010061 1010062 s) .normal Q) (fun s=>To 66 F0 w0 [(6,vi s.1),(7,vi s.2.1)] (qf5 1000000 1010060 1010061 1010062 s.2.2) .ret Q)) o):Wp Tryz.prog 66 F0 w0 [(0,.own 1000000 0),(2,vi v2),(4,.own 4 0),(11,vi v11)] (ex11 b4 b1000000) (cB (cA (cB (cB (cF Tryz.f12))))) Q:=by
 unfold store_Store_Do__o0_j1 at h
 refine Wp.block (Wp.seq (rg [0,2,4,11,12] [4,1000000,1010060,1010061,1010062] [(0,.own 1000000 0),(2,vi v2),(4,.own 4 0),(11,vi v11),(12,vb (v11 == 1))] (ex11 b4 b1000000) (To.thenN (cn h (fun h=>?_) (fun h=>?_)))))
 ·refine Wp.seq ?_
  obtain ⟨r1,hr1,h⟩:=lett_of h
  refine Wp.regionO hm hΓ [] [] [(5,⟨[(1000000,1010061)],[(1000000,1010061)],[.mp 1000000,.agg (qc6 b4)],[(1000000,107,[mc4 b1000000.f_nets])],vi r1.1,[(1000000,107,[mc4 r1.2])]⟩)] [0,2,4,6,7,11,12,14,15,16,17,18,19] [4,1000000,1010060,1010061,1010062] [6,7] [1000000,1010060,1010061,1010062] (K':=[(6,vi 0),(7,vi r1.1)]) (L':=[(ex5 b1000000),(1010060,105,[mc3 b1000000.f_boxes]),(1010061,107,[mc4 r1.2]),(ex7 b1000000)]) (ob:=[CbOb (CallsB Tryz.prog) 50 [.mp 1010061,.agg (qc6 b4)] [some (107,[mc4 b1000000.f_nets])] ⟨[(1000000,1010061)],[(1000000,1010061)],[.mp 1000000,.agg (qc6 b4)],[(1000000,107,[mc4 b1000000.f_nets])],vi r1.1,[(1000000,107,[mc4 r1.2])]⟩]) (by kernel_rfl) (by kernel_rfl) (AllP.cons (⟨(ok_store_put__m0 b4 b1000000.f_nets _ hr1),by kernel_rfl,by kernel_rfl⟩) AllP.nil) ?_
  refine To.thenN (Wp.ret (To.blockR (kt [6,7] [1000000,1010060,1010061,1010062] [(6,vi 0),(7,vi r1.1)] [(ex5 b1000000),(1010060,105,[mc3 b1000000.f_boxes]),(1010061,107,[mc4 r1.2]),(ex7 b1000000)] ?_)))
  cases h
  exact hQ
 ·refine Wp.seq (rg [0,2,4,11,20] [4,1000000,1010060,1010061,1010062] [(0,.own 1000000 0),(2,vi v2),(4,.own 4 0),(11,vi v11),(20,vb (v11 == 2))] (ex11 b4 b1000000) (To.thenN (cn h (fun h=>?_) (fun h=>?_))))
  ·refine Wp.seq ?_
   obtain ⟨r2,hr2,h⟩:=lett_of h
   refine Wp.regionO hm hΓ [] [] [(5,⟨[(1000000,1010062)],[(1000000,1010062)],[.mp 1000000,.agg (qc6 b4)],[(1000000,107,[mc4 b1000000.f_vols])],vi r2.1,[(1000000,107,[mc4 r2.2])]⟩)] [0,2,4,6,7,11,20,22,23,24,25,26,27] [4,1000000,1010060,1010061,1010062] [6,7] [1000000,1010060,1010061,1010062] (K':=[(6,vi 0),(7,vi r2.1)]) (L':=[(ex5 b1000000),(1010060,105,[mc3 b1000000.f_boxes]),(ex6 b1000000),(1010062,107,[mc4 r2.2])]) (ob:=[CbOb (CallsB Tryz.prog) 50 [.mp 1010062,.agg (qc6 b4)] [some (107,[mc4 b1000000.f_vols])] ⟨[(1000000,1010062)],[(1000000,1010062)],[.mp 1000000,.agg (qc6 b4)],[(1000000,107,[mc4 b1000000.f_vols])],vi r2.1,[(1000000,107,[mc4 r2.2])]⟩]) (by kernel_rfl) (by kernel_rfl) (AllP.cons (⟨(ok_store_put__m0 b4 b1000000.f_vols _ hr2),by kernel_rfl,by kernel_rfl⟩) AllP.nil) ?_
   refine To.thenN (Wp.ret (To.blockR (kt [6,7] [1000000,1010060,1010061,1010062] [(6,vi 0),(7,vi r2.1)] [(ex5 b1000000),(1010060,105,[mc3 b1000000.f_boxes]),(ex6 b1000000),(1010062,107,[mc4 r2.2])] ?_)))
   cases h
   exact hQ
  ·refine Wp.seq (rg [0,2,4,11,28] [4,1000000,1010060,1010061,1010062] [(0,.own 1000000 0),(2,vi v2),(4,.own 4 0),(11,vi v11),(28,vb (v11 == 3))] (ex11 b4 b1000000) (To.thenN (cn h (fun h=>?_) (fun h=>?_))))
   ·refine Wp.seq ?_
    obtain ⟨r3,hr3,h⟩:=bind_of h
    refine Wp.regionO hm hΓ [] [] [(7,⟨[(1000000,1000000),(1010060,1010060),(1010061,1010061),(1010062,1010062)],[(1000000,1000000),(1010060,1010060),(1010061,1010061),(1010062,1010062)],[.own 1000000 0,.mp 1010061,.str b4.f_Name,.fn 52 []],(ex12 b1000000),vi r3.1,(qf5 1000000 1010060 1010061 1010062 r3.2)⟩)] [0,2,4,6,7,11,28,30,31,32,33,34,35,36,37] [4,1000000,1010060,1010061,1010062] [6,7] [1000000,1010060,1010061,1010062] (K':=[(6,vi 0),(7,vi r3.1)]) (L':=(qf5 1000000 1010060 1010061 1010062 r3.2)) (ob:=[CbOb (CallsB Tryz.prog) 51 [.own 1000000 0,.mp 1010061,.str b4.f_Name,.fn 52 []] (ps15 1010060 1010061 1010062 b1000000) ⟨[(1000000,1000000),(1010060,1010060),(1010061,1010061),(1010062,1010062)],[(1000000,1000000),(1010060,1010060),(1010061,1010061),(1010062,1010062)],[.own 1000000 0,.mp 1010061,.str b4.f_Name,.fn 52 []],(ex12 b1000000),vi r3.1,(qf5 1000000 1010060 1010061 1010062 r3.2)⟩]) (by kernel_rfl) (by kernel_rfl) (AllP.cons (⟨(ok_store_Store_drop__o0__m0n61__store_Store_Do_1 n b4.f_Name b1000000 _ hr3),by kernel_rfl,by kernel_rfl⟩) AllP.nil) ?_
    refine To.thenN (Wp.ret (To.blockR (kt [6,7] [1000000,1010060,1010061,1010062] [(6,vi 0),(7,vi r3.1)] (qf5 1000000 1010060 1010061 1010062 r3.2) ?_)))
    cases h
    exact hQ
   ·refine Wp.seq (rg [0,2,4,11,38] [4,1000000,1010060,1010061,1010062] [(0,.own 1000000 0),(2,vi v2),(4,.own 4 0),(11,vi v11),(38,vb (v11 == 4))] (ex11 b4 b1000000) (To.thenN (cn h (fun h=>?_) (fun h=>?_))))
    ·refine Wp.seq ?_
     obtain ⟨r4,hr4,h⟩:=bind_of h
     refine Wp.regionO hm hΓ [] [] [(7,⟨[(1000000,1000000),(1010060,1010060),(1010061,1010061),(1010062,1010062)],[(1000000,1000000),(1010060,1010060),(1010061,1010061),(1010062,1010062)],[.own 1000000 0,.mp 1010062,.str b4.f_Name,.fn 53 []],(ex12 b1000000),vi r4.1,(qf5 1000000 1010060 1010061 1010062 r4.2)⟩)] [0,2,4,6,7,11,38,40,41,42,43,44,45,46,47] [4,1000000,1010060,1010061,1010062] [6,7] [1000000,1010060,1010061,1010062] (K':=[(6,vi 0),(7,vi r4.1)]) (L':=(qf5 1000000 1010060 1010061 1010062 r4.2)) (ob:=[CbOb (CallsB Tryz.prog) 51 [.own 1000000 0,.mp 1010062,.str b4.f_Name,.fn 53 []] (ps15 1010060 1010061 1010062 b1000000) ⟨[(1000000,1000000),(1010060,1010060),(1010061,1010061),(1010062,1010062)],[(1000000,1000000),(1010060,1010060),(1010061,1010061),(1010062,1010062)],[.own 1000000 0,.mp 1010062,.str b4.f_Name,.fn 53 []],(ex12 b1000000),vi r4.1,(qf5 1000000 1010060 1010061 1010062 r4.2)⟩]) (by kernel_rfl) (by kernel_rfl) (AllP.cons (⟨(ok_store_Store_drop__o0__m0n62__store_Store_Do_2 n b4.f_Name b1000000 _ hr4),by kernel_rfl,by kernel_rfl⟩) AllP.nil) ?_
     refine To.thenN (Wp.ret (To.blockR (kt [6,7] [1000000,1010060,1010061,1010062] [(6,vi 0),(7,vi r4.1)] (qf5 1000000 1010060 1010061 1010062 r4.2) ?_)))
     cases h
     exact hQ
    ·refine Wp.seq (rg [0,2,4,11,48] [4,1000000,1010060,1010061,1010062] [(0,.own 1000000 0),(2,vi v2),(4,.own 4 0),(11,vi v11),(48,vb (v11 == 5))] (ex11 b4 b1000000) (To.thenN (cn h (fun h=>?_) (fun h=>?_))))
     ·refine Wp.seq ?_
      obtain ⟨r5,hr5,h⟩:=bind_of h
      refine rb [] 3 ⟨[(1000000,1000000),(1010060,1010060),(1010061,1010061),(1010062,1010062)],[(1000000,1000000),(1010060,1010060),(1010061,1010061),(1010062,1010062)],[.own 1000000 0,.agg [.str b4.f_Spec.f_Name,.str b4.f_Spec.f_Project,.str b4.f_Spec.f_Service,vi b4.f_Spec.f_Number,.str b4.f_Spec.f_Hash,ls b4.f_Spec.f_Nets,ls b4.f_Spec.f_Vols,.str b4.f_Spec.f_Health.f_Test,vi b4.f_Spec.f_Health.f_Every,vi b4.f_Spec.f_Health.f_Start,vi b4.f_Spec.f_Health.f_Retries,vi b4.f_Spec.f_Restart,vi b4.f_Spec.f_Tries]],(ex12 b1000000),.tup [vi r5.1,vi r5.2.1],(qf5 1000000 1010060 1010061 1010062 r5.2.2)⟩ [6,7] [1000000,1010060,1010061,1010062] [(6,vi r5.1),(7,vi r5.2.1)] (qf5 1000000 1010060 1010061 1010062 r5.2.2) ((ok_store_Store_make__o0 n b4.f_Spec b1000000 _ hr5)) (To.thenN (Wp.ret (To.blockR ?_)))
      cases h
      exact hQ
     ·refine Wp.seq (Wp.seq (rg [0,2,4,11,56] [4,1000000,1010060,1010061,1010062] [(0,.own 1000000 0),(2,vi v2),(4,.own 4 0),(11,vi v11),(56,vb (v11 == 6))] (ex11 b4 b1000000) (To.thenN ?_)))
      obtain ⟨o6,ho6,h⟩:=bind_of h
      refine kw [0,2,4,11,56] [4,1000000,1010060,1010061,1010062] [(0,.own 1000000 0),(2,vi v2),(4,.own 4 0),(11,vi v11),(56,vb (v11 == 6))] (ex11 b4 b1000000) (ok_store_Store_Do__o0_j2 n v2 v11 (v11 == 6) b4 b1000000 o6 ho6 (To.thenN (cn h (fun h=>?_) (fun h=>?_))))
      ·refine Wp.seq ?_
       obtain ⟨r7,hr7,h⟩:=lett_of h
       refine rb [] 3 ⟨[(1000000,1000000),(1010060,1010060),(1010061,1010061),(1010062,1010062)],[(1000000,1000000),(1010060,1010060),(1010061,1010061),(1010062,1010062)],[.own 1000000 0,.agg (qc6 b4),vi v2],(ex12 b1000000),.tup [vi r7.1,vi r7.2.1],(qf5 1000000 1010060 1010061 1010062 r7.2.2)⟩ [6,7] [1000000,1010060,1010061,1010062] [(6,vi r7.1),(7,vi r7.2.1)] (qf5 1000000 1010060 1010061 1010062 r7.2.2) ((ok_store_Store_change__o0 b4 v2 b1000000 _ hr7)) (To.thenN (Wp.ret (To.blockR ?_)))
       cases h
       exact hQ
      ·refine Wp.skip (To.blockN (kt [] [1000000,1010060,1010061,1010062] [] (ex12 b1000000) ?_))
       cases h
       exact hQ
def store_Store_Do__o0 (n:Nat) (a1:S_api_Call) (a2:Int) (h0:S_store_Store):Option (Int × Int × S_store_Store) :=
 (store_Store_Do__o0_j1 n a2 a1.f_Kind a1 h0).bind fun o1 =>
 (Sum.elim (fun o1=>some (0,2,o1)) (fun o1=>some (o1.1,o1.2.1,o1.2.2))) o1
theorem ok_store_Store_Do__o0 (n:Nat) (a1:S_api_Call) (a2:Int) (h0:S_store_Store) (r:Int × Int × S_store_Store) (h:store_Store_Do__o0 n a1 a2 h0 = some r):CallsB Tryz.prog 12 [.own 1000000 0,.agg (qc6 a1),vi a2] (qf5 1000000 1010060 1010061 1010062 h0) (.tup [vi r.1,vi r.2.1]) (qf5 1000000 1010060 1010061 1010062 r.2.2):=by
 unfold store_Store_Do__o0 at h
 refine bo Tryz.f12 rfl fun F0 w0=>?_
 refine Wp.seq (rg [0,2,4] [4,1000000,1010060,1010061,1010062] [(0,.own 1000000 0),(2,vi a2),(4,.own 4 0)] ((4,40,(E_api_Call a1))::qf5 1000000 1010060 1010061 1010062 h0) (To.thenN (Wp.seq (Wp.seq (rg [0,2,4,9] [4,1000000,1010060,1010061,1010062] [(0,.own 1000000 0),(2,vi a2),(4,.own 4 0),(9,vb false)] ((4,40,(E_api_Call a1))::qf5 1000000 1010060 1010061 1010062 h0) (To.thenN (Wp.cond (b:=false) (by kernel_rfl) (fun hb=>by cases hb) (fun _=>(Wp.skip (To.thenN (Wp.seq (Wp.seq ?_))))))))))))
 refine rg [0,2,4,11] [4,1000000,1010060,1010061,1010062] [(0,.own 1000000 0),(2,vi a2),(4,.own 4 0),(11,vi a1.f_Kind)] ((4,40,(E_api_Call a1))::qf5 1000000 1010060 1010061 1010062 h0) (To.thenN ?_)
 obtain ⟨o1,ho1,h⟩:=bind_of h
 refine kw [0,2,4,11] [4,1000000,1010060,1010061,1010062] [(0,.own 1000000 0),(2,vi a2),(4,.own 4 0),(11,vi a1.f_Kind)] ((4,40,(E_api_Call a1))::qf5 1000000 1010060 1010061 1010062 h0) (ok_store_Store_Do__o0_j1 n a2 a1.f_Kind a1 h0 o1 ho1 ?_)
 rcases o1 with o1 | o1
 ·replace h:=sum_l h
  refine To.thenN (Wp.seq (rg [6,7] [1000000,1010060,1010061,1010062] [(6,vi 0),(7,vi 2)] (qf5 1000000 1010060 1010061 1010062 o1) (To.thenN (Wp.ret ?_))))
  cases h
  exact To.doneB hΓ [1000000,1010060,1010061,1010062] (by kernel_rfl) (by kernel_rfl)
 ·replace h:=sum_r h
  refine To.thenR ?_
  cases h
  exact To.doneB hΓ [1000000,1010060,1010061,1010062] (by kernel_rfl) (by kernel_rfl)
structure S_ref32_Box where
 f_Spec:S_api_Spec
 f_Id:Int
 f_State:Int
 f_Code:Int
 f_Runs:Int
 f_Done:Int
 f_At:Int
 f_ByHand:Bool
 f_Sick:Bool
 f_Probe:S_probe_State
def E_ref32_Box:S_ref32_Box → List D:=fun x=>[.str x.f_Spec.f_Name,.str x.f_Spec.f_Project,.str x.f_Spec.f_Service,.val (.int .i64 x.f_Spec.f_Number),.str x.f_Spec.f_Hash,.recs (α:=List UInt8) [] E_string x.f_Spec.f_Nets,.recs (α:=List UInt8) [] E_string x.f_Spec.f_Vols,.str x.f_Spec.f_Health.f_Test,.val (.int .i64 x.f_Spec.f_Health.f_Every),.val (.int .i64 x.f_Spec.f_Health.f_Start),.val (.int .i64 x.f_Spec.f_Health.f_Retries),.val (.int .i64 x.f_Spec.f_Restart),.val (.int .i64 x.f_Spec.f_Tries),.val (.int .i64 x.f_Id),.val (.int .i64 x.f_State),.val (.int .i64 x.f_Code),.val (.int .i64 x.f_Runs),.val (.int .i64 x.f_Done),.val (.int .i64 x.f_At),.val (.bool x.f_ByHand),.val (.bool x.f_Sick),.val (.int .i64 x.f_Probe.f_Health),.val (.int .i64 x.f_Probe.f_Fails),.val (.int .i64 x.f_Probe.f_Began),.val (.int .i64 x.f_Probe.f_Next)]
abbrev Z_ref32_Box:S_ref32_Box:=(S_ref32_Box.mk Z_api_Spec 0 0 0 0 0 0 false false (S_probe_State.mk 0 0 0 0))
structure S_ref33_Store where
 f_Boxes:List (S_ref32_Box)
 f_Nets:List (S_api_Kept)
 f_Vols:List (S_api_Kept)
 f_Last:Int
def ref33_at_l1 (n:Nat) (v0:List (S_api_Kept)) (v1:List UInt8):Nat → Int → Option (Sum (Unit) (Int))
 | 0,_=>none
 | k + 1,v5=>if (decide (v5 < (List.length v0:Int))) = true then (if (decide (0 ≤ v5 ∧ v5 < (List.length v0:Int))) = true then (if ((((v0)[Int.toNat v5]?.getD (S_api_Kept.mk [] [])).f_Name) == v1) = true then (some (.inr v5))
 else (ref33_at_l1 n v0 v1 k (IntKind.wrap .i64 (v5 + 1)))) else none)
 else (some (.inl ()))
abbrev rs16 (l:List (S_api_Kept)):D:=.recs (α:=S_api_Kept) zx2 E_api_Kept l
theorem ok_ref33_at_l1 (n:Nat) (v0:List (S_api_Kept)) (v1:List UInt8) {F0:Fz} {w0:Pt Tryz.prog} {Q:Exit → Act → World → Prop} (k:Nat):∀ (v5:Int) (o:Sum (Unit) (Int)),ref33_at_l1 n v0 v1 k v5 = some o → (Sum.elim (fun s=>To 20 F0 w0 [] [] (.exit 0) Q) (fun s=>To 20 F0 w0 [(4,vi s)] [] .ret Q)) o → WL Tryz.prog 20 F0 w0 [(0,rs16 v0),(1,.str v1),(5,vi v5)] [] (cI (cI (cB (cA (cB (cF Tryz.f68)))))) Q:=by
 induction k with
 | zero=>intro v5 o h; cases h
 | succ k ih =>
  intro v5 o h hQ
  rw [ref33_at_l1] at h
  refine WL.round (Wp.seq (Wp.seq (rg [0,1,5,9] [] [(0,rs16 v0),(1,.str v1),(5,vi v5),(9,vb (decide (v5 < (List.length v0:Int))))] [] (To.thenN (cn h (fun h=>?_) (fun h=>?_))))))
  ·refine Wp.skip (To.thenN (Wp.seq (Wp.block (Wp.seq ?_))))
   obtain ⟨hc1,h⟩:=chk_of h
   refine r0 [0,1,5,18] [] [(0,rs16 v0),(1,.str v1),(5,vi v5),(18,vb ((((v0)[Int.toNat v5]?.getD zx2).f_Name) == v1))] [] (AllP.cons hc1 AllP.nil) (To.thenN (cn h (fun h=>?_) (fun h=>?_)))
   ·refine Wp.seq (rg [4] [] [(4,vi v5)] [] (To.thenN (Wp.ret (To.blockR (To.thenR (To.thenR ?_))))))
    cases h
    exact hQ
   ·refine Wp.skip (To.blockN (To.thenN (rg [0,1,5] [] [(0,rs16 v0),(1,.str v1),(ex2 v5)] [] (kt [0,1,5] [] [(0,rs16 v0),(1,.str v1),(ex2 v5)] [] (To.again ?_)))))
    exact ih (IntKind.wrap .i64 (v5 + 1)) _ h hQ
  ·refine Wp.exit (To.thenX (To.thenX (kt [] [] [] [] ?_)))
   cases h
   exact hQ
def ref33_at (n:Nat) (a0:List (S_api_Kept)) (a1:List UInt8):Option (Int) :=
 (ref33_at_l1 n a0 a1 n 0).bind fun o1 =>
 (Sum.elim (fun o1=>some (-1)) (fun o1=>some o1)) o1
theorem ok_ref33_at (n:Nat) (a0:List (S_api_Kept)) (a1:List UInt8) (r:Int) (h:ref33_at n a0 a1 = some r):CallsX Tryz.prog 68 [rs16 a0,.str a1] (vi r):=by
 unfold ref33_at at h
 refine xo Tryz.f68 rfl fun F0 w0 _=>?_
 refine Wp.seq (rg [0,1] [] [(0,rs16 a0),(1,.str a1)] [] (To.thenN (Wp.seq (Wp.seq (rg [0,1,5] [] [(0,rs16 a0),(1,.str a1),(5,vi 0)] [] (To.thenN (Wp.block ?_)))))))
 obtain ⟨o1,ho1,h⟩:=bind_of h
 refine kw [0,1,5] [] [(0,rs16 a0),(1,.str a1),(5,vi 0)] [] (Wp.loopL (ok_ref33_at_l1 n a0 a1 n 0 o1 ho1 ?_))
 rcases o1 with o1 | o1
 ·replace h:=sum_l h
  refine To.blockX (To.thenN (Wp.seq (rg [4] [] [(4,vi (-1))] [] (To.thenN (Wp.ret ?_)))))
  cases h
  exact To.done hΓ (by kernel_rfl)
 ·replace h:=sum_r h
  refine To.blockR (To.thenR ?_)
  cases h
  exact To.done hΓ (by kernel_rfl)
theorem good_E_api_Kept (l:List (S_api_Kept)):GoodR (.recs (S_api_Kept.mk [] []) E_api_Kept l):=⟨Nat.le_of_ble_eq_true (by kernel_rfl),fun _=>⟨rfl,rfl⟩⟩
def ref33_put (n:Nat) (a0:List (S_api_Kept)) (a1:S_api_Call):Option ((List (S_api_Kept)) × Int) :=
 if (bif (decide ((List.length a1.f_Name:Int) < 1)) then true else (decide ((List.length a1.f_Name:Int) > 64))) = true then (some (a0,2))
 else ((ref33_at n a0 a1.f_Name).bind fun r1 =>
 if (decide (r1 ≥ 0)) = true then (some (a0,11))
 else (if (decide ((List.length a0:Int) ≥ 32)) = true then (some (a0,14))
 else (if (decide ((List.length ([]:List (S_api_Kept)) + List.length a0) * (32 + 1) ≤ limit)) = true then (if (decide ((List.length (([]:List (S_api_Kept)) ++ a0) + List.length ([(S_api_Kept.mk a1.f_Name a1.f_Spec.f_Project)]:List (S_api_Kept))) * (32 + 1) ≤ limit)) = true then (some (((([]:List (S_api_Kept)) ++ a0) ++ ([(S_api_Kept.mk a1.f_Name a1.f_Spec.f_Project)]:List (S_api_Kept))),0)) else none) else none)))
abbrev rc17 (l:List (S_api_Kept)):D:=.rowc false (α:=S_api_Kept) zx2 E_api_Kept l
abbrev rc18 (l:List (S_api_Kept)):D:=.rowc true (α:=S_api_Kept) zx2 E_api_Kept l
abbrev ex13 (x0:List (S_api_Kept)):=(([]:List (S_api_Kept)) ++ x0)
abbrev ex68 (x0:S_api_Call):=([(ex3 x0)]:List (S_api_Kept))
theorem ok_ref33_put (n:Nat) (a0:List (S_api_Kept)) (a1:S_api_Call) (r:(List (S_api_Kept)) × Int) (h:ref33_put n a0 a1 = some r):CallsX Tryz.prog 56 [rs16 a0,.agg (qc6 a1)] (.tup [rs16 r.1,vi r.2]):=by
 unfold ref33_put at h
 refine xo Tryz.f56 rfl fun F0 w0 _=>?_
 refine Wp.seq (rg [0,3] [3] [(0,rs16 a0),(3,.own 3 0)] [(3,40,(E_api_Call a1))] (To.thenN (Wp.seq (Wp.seq (rg [0,3,16] [3] [(0,rs16 a0),(3,.own 3 0),(16,vb (bif (decide ((List.length a1.f_Name:Int) < 1)) then true else (decide ((List.length a1.f_Name:Int) > 64))))] [(3,40,(E_api_Call a1))] (To.thenN (cn h (fun h=>?_) (fun h=>?_))))))))
 ·refine Wp.seq (rg [4,5] [] [(4,rs16 a0),(5,vi 2)] [] (To.thenN (Wp.ret (To.thenR ?_))))
  cases h
  exact To.done hΓ (by kernel_rfl)
 ·refine Wp.skip (To.thenN (Wp.seq (Wp.seq ?_)))
  obtain ⟨r1,hr1,h⟩:=bind_of h
  refine rc [] 3 [0,3,22] [3] [(0,rs16 a0),(3,.own 3 0),(22,vb (decide (r1 ≥ 0)))] [(3,40,(E_api_Call a1))] (ok_ref33_at n a0 a1.f_Name _ hr1) (To.thenN (cn h (fun h=>?_) (fun h=>?_)))
  ·refine Wp.seq (rg [4,5] [] [(4,rs16 a0),(5,vi 11)] [] (To.thenN (Wp.ret (To.thenR ?_))))
   cases h
   exact To.done hΓ (by kernel_rfl)
  ·refine Wp.skip (To.thenN (Wp.seq (Wp.seq (rg [0,3,26] [3] [(0,rs16 a0),(3,.own 3 0),(26,vb (decide ((List.length a0:Int) ≥ 32)))] [(3,40,(E_api_Call a1))] (To.thenN (cn h (fun h=>?_) (fun h=>?_)))))))
   ·refine Wp.seq (rg [4,5] [] [(4,rs16 a0),(5,vi 14)] [] (To.thenN (Wp.ret (To.thenR ?_))))
    cases h
    exact To.done hΓ (by kernel_rfl)
   ·refine Wp.skip (To.thenN (Wp.seq ?_))
    obtain ⟨hc3,h⟩:=chk_of h
    refine rr [] [(0,rs16 []),(2,rs16 (ex13 a0))] [] [3,6] [3,30] [(3,.own 3 0),(6,.row 30)] [(3,40,(E_api_Call a1)),(30,134,[rc17 (ex13 a0)])] [(MkOb 2 [] 0 (rs16 []) ∧ GoodR (rs16 [])),_,(AppOb zx2 E_api_Kept ([]:List (S_api_Kept)) (List.flatMap E_api_Kept a0) (List.length a0) (rs16 (ex13 a0)) ∧ GoodR (rs16 (ex13 a0)))] (AllP.cons (mkOb (by kernel_rfl) rfl (by kernel_rfl) (good_E_api_Kept _)) (AllP.cons hc3 (AllP.cons (appOb rfl rfl (good_E_api_Kept _)) AllP.nil))) (To.thenN (Wp.seq ?_))
    obtain ⟨hc2,h⟩:=chk_of h
    refine rr [] [(7,rs16 [(ex3 a1)]),(8,rs16 ((ex13 a0) ++ (ex68 a1)))] [] [4,5] [39] [(4,.row 39),(5,vi 0)] [(39,134,[rc17 ((ex13 a0) ++ (ex68 a1))])] [(MkOb 2 [.str a1.f_Name,.str a1.f_Spec.f_Project] 1 (rs16 [(ex3 a1)]) ∧ GoodR (rs16 [(ex3 a1)])),_,(AppOb zx2 E_api_Kept (ex13 a0) (List.flatMap E_api_Kept (ex68 a1)) (List.length (ex68 a1)) (rs16 ((ex13 a0) ++ (ex68 a1))) ∧ GoodR (rs16 ((ex13 a0) ++ (ex68 a1))))] (AllP.cons (mkOb (by kernel_rfl) rfl (by kernel_rfl) (good_E_api_Kept _)) (AllP.cons hc2 (AllP.cons (appOb rfl rfl (good_E_api_Kept _)) AllP.nil))) (To.thenN (Wp.ret (To.pre (St.settle (ks:=[39]) (kk:=[4,5]) (kl:=[39]) (K':=[(4,.row 39),(5,vi 0)]) (L':=[(39,134,[rc18 ((ex13 a0) ++ (ex68 a1))])]) (by kernel_rfl)) (To.pre (St.sealK [4] (K':=[(4,rs16 ((ex13 a0) ++ (ex68 a1))),(5,vi 0)]) (by kernel_rfl)) ?_))))
    cases h
    exact To.done hΓ (by kernel_rfl)
def ref02_In_l1 (n:Nat) (v0:List (List UInt8)) (v1:List UInt8):Nat → Int → Option (Sum (Unit) (Bool))
 | 0,_=>none
 | k + 1,v5=>if (decide (v5 < (List.length v0:Int))) = true then (if (decide (0 ≤ v5 ∧ v5 < (List.length v0:Int))) = true then (if (((v0)[Int.toNat v5]?.getD []) == v1) = true then (some (.inr true))
 else (ref02_In_l1 n v0 v1 k (IntKind.wrap .i64 (v5 + 1)))) else none)
 else (some (.inl ()))
theorem ok_ref02_In_l1 (n:Nat) (v0:List (List UInt8)) (v1:List UInt8) {F0:Fz} {w0:Pt Tryz.prog} {Q:Exit → Act → World → Prop} (k:Nat):∀ (v5:Int) (o:Sum (Unit) (Bool)),ref02_In_l1 n v0 v1 k v5 = some o → (Sum.elim (fun s=>To 18 F0 w0 [] [] (.exit 0) Q) (fun s=>To 18 F0 w0 [(4,vb s)] [] .ret Q)) o → WL Tryz.prog 18 F0 w0 [(0,ls v0),(1,.str v1),(5,vi v5)] [] (cI (cI (cB (cA (cB (cF Tryz.f89)))))) Q:=by
 induction k with
 | zero=>intro v5 o h; cases h
 | succ k ih =>
  intro v5 o h hQ
  rw [ref02_In_l1] at h
  refine WL.round (Wp.seq (Wp.seq (rg [0,1,5,9] [] [(0,ls v0),(1,.str v1),(5,vi v5),(9,vb (decide (v5 < (List.length v0:Int))))] [] (To.thenN (cn h (fun h=>?_) (fun h=>?_))))))
  ·refine Wp.skip (To.thenN (Wp.seq (Wp.block (Wp.seq ?_))))
   obtain ⟨hc1,h⟩:=chk_of h
   refine r0 [0,1,5,17] [] [(0,ls v0),(1,.str v1),(5,vi v5),(17,vb (((v0)[Int.toNat v5]?.getD []) == v1))] [] (AllP.cons hc1 AllP.nil) (To.thenN (cn h (fun h=>?_) (fun h=>?_)))
   ·refine Wp.seq (rg [4] [] [(4,vb true)] [] (To.thenN (Wp.ret (To.blockR (To.thenR (To.thenR ?_))))))
    cases h
    exact hQ
   ·refine Wp.skip (To.blockN (To.thenN (rg [0,1,5] [] [(0,ls v0),(1,.str v1),(ex2 v5)] [] (kt [0,1,5] [] [(0,ls v0),(1,.str v1),(ex2 v5)] [] (To.again ?_)))))
    exact ih (IntKind.wrap .i64 (v5 + 1)) _ h hQ
  ·refine Wp.exit (To.thenX (To.thenX (kt [] [] [] [] ?_)))
   cases h
   exact hQ
def ref02_In (n:Nat) (a0:List (List UInt8)) (a1:List UInt8):Option (Bool) :=
 (ref02_In_l1 n a0 a1 n 0).bind fun o1 =>
 (Sum.elim (fun o1=>some false) (fun o1=>some o1)) o1
theorem ok_ref02_In (n:Nat) (a0:List (List UInt8)) (a1:List UInt8) (r:Bool) (h:ref02_In n a0 a1 = some r):CallsX Tryz.prog 89 [ls a0,.str a1] (vb r):=by
 unfold ref02_In at h
 refine xo Tryz.f89 rfl fun F0 w0 _=>?_
 refine Wp.seq (rg [0,1] [] [(0,ls a0),(1,.str a1)] [] (To.thenN (Wp.seq (Wp.seq (rg [0,1,5] [] [(0,ls a0),(1,.str a1),(5,vi 0)] [] (To.thenN (Wp.block ?_)))))))
 obtain ⟨o1,ho1,h⟩:=bind_of h
 refine kw [0,1,5] [] [(0,ls a0),(1,.str a1),(5,vi 0)] [] (Wp.loopL (ok_ref02_In_l1 n a0 a1 n 0 o1 ho1 ?_))
 rcases o1 with o1 | o1
 ·replace h:=sum_l h
  refine To.blockX (To.thenN (Wp.seq (rg [4] [] [(4,vb false)] [] (To.thenN (Wp.ret ?_)))))
  cases h
  exact To.done hΓ (by kernel_rfl)
 ·replace h:=sum_r h
  refine To.blockR (To.thenR ?_)
  cases h
  exact To.done hΓ (by kernel_rfl)
def ref33_drop_j3 (n:Nat) (v1:List (S_api_Kept)) (v2:List UInt8) (v3:Bool) (v10:Int) (v11:Int) (v12:List (List UInt8)) (v34:Bool) (b4:S_ref33_Store):Option ((List (List UInt8))) :=
 if v34 = true then (if (decide (0 ≤ v11 ∧ v11 < (List.length b4.f_Boxes:Int))) = true then (some (((b4.f_Boxes)[Int.toNat v11]?.getD Z_ref32_Box).f_Spec.f_Nets)) else none)
 else some v12
abbrev rs19 (l:List (S_ref32_Box)):D:=.recs (α:=S_ref32_Box) Z_ref32_Box E_ref32_Box l
abbrev qc20 (x:S_ref33_Store):List D:=[rs19 x.f_Boxes,rs16 x.f_Nets,rs16 x.f_Vols,vi x.f_Last]
abbrev ex14 (x0:S_ref33_Store) (x1:Int):=((x0.f_Boxes)[Int.toNat x1]?.getD Z_ref32_Box)
abbrev ex15 (x0:S_ref33_Store):=(List.length x0.f_Boxes:Int)
theorem ok_ref33_drop_j3 (n:Nat) (v1:List (S_api_Kept)) (v2:List UInt8) (v3:Bool) (v10:Int) (v11:Int) (v12:List (List UInt8)) (v34:Bool) (b4:S_ref33_Store) (o:(List (List UInt8))) (h:ref33_drop_j3 n v1 v2 v3 v10 v11 v12 v34 b4 = some o) {F0:Fz} {w0:Pt Tryz.prog} {Q:Exit → Act → World → Prop} (hQ:To 57 F0 w0 [(1,rs16 v1),(2,.str v2),(3,vb v3),(4,.own 4 0),(10,vi v10),(11,vi v11),(12,ls o)] [(4,30,qc20 b4)] .normal Q):Wp Tryz.prog 57 F0 w0 [(1,rs16 v1),(2,.str v2),(3,vb v3),(4,.own 4 0),(10,vi v10),(11,vi v11),(12,ls v12),(34,vb v34)] [(4,30,qc20 b4)] (cB (cA (cB (cI (cA (cB (cI (cI (cB (cA (cB (cB (cB (cF Tryz.f57)))))))))))))) Q:=by
 unfold ref33_drop_j3 at h
 refine cn h (fun h=>?_) (fun h=>?_)
 ·obtain ⟨hc2,h⟩:=chk_of h
  refine r0 [1,2,3,4,10,11,12] [4] [(1,rs16 v1),(2,.str v2),(3,vb v3),(4,.own 4 0),(10,vi v10),(11,vi v11),(12,ls ((ex14 b4 v11).f_Spec.f_Nets))] [(4,30,qc20 b4)] (AllP.cons hc2 AllP.nil) (kt [1,2,3,4,10,11,12] [4] [(1,rs16 v1),(2,.str v2),(3,vb v3),(4,.own 4 0),(10,vi v10),(11,vi v11),(12,ls ((ex14 b4 v11).f_Spec.f_Nets))] [(4,30,qc20 b4)] ?_)
  cases h
  exact hQ
 ·refine Wp.skip (kt [1,2,3,4,10,11,12] [4] [(1,rs16 v1),(2,.str v2),(3,vb v3),(4,.own 4 0),(10,vi v10),(11,vi v11),(12,ls v12)] [(4,30,qc20 b4)] ?_)
  cases h
  exact hQ
def ref33_drop_j2 (n:Nat) (v1:List (S_api_Kept)) (v2:List UInt8) (v3:Bool) (v10:Int) (v11:Int) (b4:S_ref33_Store):Option (Sum (Unit) ((List (S_api_Kept)) × Int)) :=
 if (decide (0 ≤ v11 ∧ v11 < (List.length b4.f_Boxes:Int))) = true then ((ref33_drop_j3 n v1 v2 v3 v10 v11 (((b4.f_Boxes)[Int.toNat v11]?.getD Z_ref32_Box).f_Spec.f_Vols) v3 b4).bind fun o2 =>
 (ref02_In n o2 v2).bind fun r3 =>
 if r3 = true then (some (.inr (v1,17)))
 else (some (.inl ()))) else none
theorem ok_ref33_drop_j2 (n:Nat) (v1:List (S_api_Kept)) (v2:List UInt8) (v3:Bool) (v10:Int) (v11:Int) (b4:S_ref33_Store) (o:Sum (Unit) ((List (S_api_Kept)) × Int)) (h:ref33_drop_j2 n v1 v2 v3 v10 v11 b4 = some o) {F0:Fz} {w0:Pt Tryz.prog} {Q:Exit → Act → World → Prop} (hQ:(Sum.elim (fun s=>To 57 F0 w0 [(1,rs16 v1),(2,.str v2),(3,vb v3),(4,.own 4 0),(10,vi v10),(11,vi v11)] [(4,30,qc20 b4)] .normal Q) (fun s=>To 57 F0 w0 [(8,rs16 s.1),(9,vi s.2)] [] .ret Q)) o):Wp Tryz.prog 57 F0 w0 [(1,rs16 v1),(2,.str v2),(3,vb v3),(4,.own 4 0),(10,vi v10),(11,vi v11)] [(4,30,qc20 b4)] (cA (cB (cI (cI (cB (cA (cB (cB (cB (cF Tryz.f57)))))))))) Q:=by
 unfold ref33_drop_j2 at h
 refine Wp.block (Wp.seq ?_)
 obtain ⟨hc4,h⟩:=chk_of h
 refine r0 [1,2,3,4,10,11,12] [4] [(1,rs16 v1),(2,.str v2),(3,vb v3),(4,.own 4 0),(10,vi v10),(11,vi v11),(12,ls ((ex14 b4 v11).f_Spec.f_Vols))] [(4,30,qc20 b4)] (AllP.cons hc4 AllP.nil) (To.thenN (Wp.seq (Wp.seq (rg [1,2,3,4,10,11,12,34] [4] [(1,rs16 v1),(2,.str v2),(3,vb v3),(4,.own 4 0),(10,vi v10),(11,vi v11),(12,ls ((ex14 b4 v11).f_Spec.f_Vols)),(34,vb v3)] [(4,30,qc20 b4)] (To.thenN ?_)))))
 obtain ⟨o2,ho2,h⟩:=bind_of h
 refine kw [1,2,3,4,10,11,12,34] [4] [(1,rs16 v1),(2,.str v2),(3,vb v3),(4,.own 4 0),(10,vi v10),(11,vi v11),(12,ls ((ex14 b4 v11).f_Spec.f_Vols)),(34,vb v3)] [(4,30,qc20 b4)] (ok_ref33_drop_j3 n v1 v2 v3 v10 v11 ((ex14 b4 v11).f_Spec.f_Vols) v3 b4 o2 ho2 (To.thenN (Wp.seq ?_)))
 obtain ⟨r3,hr3,h⟩:=bind_of h
 refine rc [] 2 [1,2,3,4,10,11,44] [4] [(1,rs16 v1),(2,.str v2),(3,vb v3),(4,.own 4 0),(10,vi v10),(11,vi v11),(44,vb r3)] [(4,30,qc20 b4)] (ok_ref02_In n o2 v2 _ hr3) (To.thenN (cn h (fun h=>?_) (fun h=>?_)))
 ·refine Wp.seq (rg [8,9] [] [(8,rs16 v1),(9,vi 17)] [] (To.thenN (Wp.ret (To.blockR ?_))))
  cases h
  exact hQ
 ·refine Wp.skip (To.blockN (kt [1,2,3,4,10,11] [4] [(1,rs16 v1),(2,.str v2),(3,vb v3),(4,.own 4 0),(10,vi v10),(11,vi v11)] [(4,30,qc20 b4)] ?_))
  cases h
  exact hQ
def ref33_drop_l1 (n:Nat) (v1:List (S_api_Kept)) (v2:List UInt8) (v3:Bool) (v10:Int) (b4:S_ref33_Store):Nat → Int → Option (Sum (Unit) ((List (S_api_Kept)) × Int))
 | 0,_=>none
 | k + 1,v11=>if (decide (v11 < (List.length b4.f_Boxes:Int))) = true then ((ref33_drop_j2 n v1 v2 v3 v10 v11 b4).bind fun o2 =>
 (Sum.elim (fun o2=>ref33_drop_l1 n v1 v2 v3 v10 b4 k (IntKind.wrap .i64 (v11 + 1))) (fun o2=>some (.inr (o2.1,o2.2)))) o2)
 else (some (.inl ()))
theorem ok_ref33_drop_l1 (n:Nat) (v1:List (S_api_Kept)) (v2:List UInt8) (v3:Bool) (v10:Int) (b4:S_ref33_Store) {F0:Fz} {w0:Pt Tryz.prog} {Q:Exit → Act → World → Prop} (k:Nat):∀ (v11:Int) (o:Sum (Unit) ((List (S_api_Kept)) × Int)),ref33_drop_l1 n v1 v2 v3 v10 b4 k v11 = some o → (Sum.elim (fun s=>To 57 F0 w0 [(1,rs16 v1),(10,vi v10)] [] (.exit 0) Q) (fun s=>To 57 F0 w0 [(8,rs16 s.1),(9,vi s.2)] [] .ret Q)) o → WL Tryz.prog 57 F0 w0 [(1,rs16 v1),(2,.str v2),(3,vb v3),(4,.own 4 0),(10,vi v10),(11,vi v11)] [(4,30,qc20 b4)] (cI (cI (cB (cA (cB (cB (cB (cF Tryz.f57)))))))) Q:=by
 induction k with
 | zero=>intro v11 o h; cases h
 | succ k ih =>
  intro v11 o h hQ
  rw [ref33_drop_l1] at h
  refine WL.round (Wp.seq (Wp.seq (rg [1,2,3,4,10,11,24] [4] [(1,rs16 v1),(2,.str v2),(3,vb v3),(4,.own 4 0),(10,vi v10),(11,vi v11),(24,vb (decide (v11 < (ex15 b4))))] [(4,30,qc20 b4)] (To.thenN (cn h (fun h=>?_) (fun h=>?_))))))
  ·refine Wp.skip (To.thenN (Wp.seq ?_))
   obtain ⟨o2,ho2,h⟩:=bind_of h
   refine kw [1,2,3,4,10,11] [4] [(1,rs16 v1),(2,.str v2),(3,vb v3),(4,.own 4 0),(10,vi v10),(11,vi v11)] [(4,30,qc20 b4)] (ok_ref33_drop_j2 n v1 v2 v3 v10 v11 b4 o2 ho2 ?_)
   rcases o2 with o2 | o2
   ·replace h:=sum_l h
    refine To.thenN (rg [1,2,3,4,10,11] [4] [(1,rs16 v1),(2,.str v2),(3,vb v3),(4,.own 4 0),(10,vi v10),(11,vi (IntKind.wrap .i64 (v11 + 1)))] [(4,30,qc20 b4)] (kt [1,2,3,4,10,11] [4] [(1,rs16 v1),(2,.str v2),(3,vb v3),(4,.own 4 0),(10,vi v10),(11,vi (IntKind.wrap .i64 (v11 + 1)))] [(4,30,qc20 b4)] (To.again ?_)))
    exact ih (IntKind.wrap .i64 (v11 + 1)) _ h hQ
   ·replace h:=sum_r h
    refine To.thenR (To.thenR (kt [8,9] [] [(8,rs16 o2.1),(9,vi o2.2)] [] ?_))
    cases h
    exact hQ
  ·refine Wp.exit (To.thenX (To.thenX (kt [1,10] [] [(1,rs16 v1),(10,vi v10)] [] ?_)))
   cases h
   exact hQ
def ref33_drop (n:Nat) (a0:S_ref33_Store) (a1:List (S_api_Kept)) (a2:List UInt8) (a3:Bool):Option ((List (S_api_Kept)) × Int) :=
 (ref33_at n a1 a2).bind fun r1 =>
 if (decide (r1 < 0)) = true then (some (a1,12))
 else ((ref33_drop_l1 n a1 a2 a3 r1 a0 n 0).bind fun o2 =>
 (Sum.elim (fun o2=>if (decide (0 ≤ r1 ∧ r1 ≤ (List.length a1:Int))) = true then (if (decide ((List.length ([]:List (S_api_Kept)) + List.length (List.take (Int.toNat r1) a1)) * (32 + 1) ≤ limit)) = true then (if (decide (0 ≤ (IntKind.wrap .i64 (r1 + 1)) ∧ (IntKind.wrap .i64 (r1 + 1)) ≤ (List.length a1:Int))) = true then (if (decide ((List.length (([]:List (S_api_Kept)) ++ (List.take (Int.toNat r1) a1)) + List.length (List.drop (Int.toNat (IntKind.wrap .i64 (r1 + 1))) a1)) * (32 + 1) ≤ limit)) = true then (some (((([]:List (S_api_Kept)) ++ (List.take (Int.toNat r1) a1)) ++ (List.drop (Int.toNat (IntKind.wrap .i64 (r1 + 1))) a1)),0)) else none) else none) else none) else none) (fun o2=>some (o2.1,o2.2))) o2)
theorem ok_ref33_drop (n:Nat) (a0:S_ref33_Store) (a1:List (S_api_Kept)) (a2:List UInt8) (a3:Bool) (r:(List (S_api_Kept)) × Int) (h:ref33_drop n a0 a1 a2 a3 = some r):CallsX Tryz.prog 57 [.agg (qc20 a0),rs16 a1,.str a2,vb a3] (.tup [rs16 r.1,vi r.2]):=by
 unfold ref33_drop at h
 refine xo Tryz.f57 rfl fun F0 w0 _=>?_
 refine Wp.seq (rg [1,2,3,4] [4] [(1,rs16 a1),(2,.str a2),(3,vb a3),(4,.own 4 0)] [(4,30,qc20 a0)] (To.thenN (Wp.seq ?_)))
 obtain ⟨r1,hr1,h⟩:=bind_of h
 refine rc [] 2 [1,2,3,4,10] [4] [(1,rs16 a1),(2,.str a2),(3,vb a3),(4,.own 4 0),(10,vi r1)] [(4,30,qc20 a0)] (ok_ref33_at n a1 a2 _ hr1) (To.thenN (Wp.seq (Wp.seq (rg [1,2,3,4,10,18] [4] [(1,rs16 a1),(2,.str a2),(3,vb a3),(4,.own 4 0),(10,vi r1),(18,vb (decide (r1 < 0)))] [(4,30,qc20 a0)] (To.thenN (cn h (fun h=>?_) (fun h=>?_)))))))
 ·refine Wp.seq (rg [8,9] [] [(8,rs16 a1),(9,vi 12)] [] (To.thenN (Wp.ret (To.thenR ?_))))
  cases h
  exact To.done hΓ (by kernel_rfl)
 ·refine Wp.skip (To.thenN (Wp.seq (Wp.seq (rg [1,2,3,4,10,11] [4] [(1,rs16 a1),(2,.str a2),(3,vb a3),(4,.own 4 0),(10,vi r1),(11,vi 0)] [(4,30,qc20 a0)] (To.thenN (Wp.block ?_))))))
  obtain ⟨o2,ho2,h⟩:=bind_of h
  refine kw [1,2,3,4,10,11] [4] [(1,rs16 a1),(2,.str a2),(3,vb a3),(4,.own 4 0),(10,vi r1),(11,vi 0)] [(4,30,qc20 a0)] (Wp.loopL (ok_ref33_drop_l1 n a1 a2 a3 r1 a0 n 0 o2 ho2 ?_))
  rcases o2 with o2 | o2
  ·replace h:=sum_l h
   refine To.blockX (To.thenN (Wp.seq ?_))
   obtain ⟨hc5,h⟩:=chk_of h
   obtain ⟨hc6,h⟩:=chk_of h
   refine rr [] [(0,rs16 []),(4,rs16 (([]:List (S_api_Kept)) ++ (List.take (Int.toNat r1) a1)))] [] [1,10,13] [50] [(1,rs16 a1),(10,vi r1),(13,.row 50)] [(50,134,[rc17 (([]:List (S_api_Kept)) ++ (List.take (Int.toNat r1) a1))])] [(MkOb 2 [] 0 (rs16 []) ∧ GoodR (rs16 [])),_,_,(AppOb zx2 E_api_Kept ([]:List (S_api_Kept)) (List.flatMap E_api_Kept (List.take (Int.toNat r1) a1)) (List.length (List.take (Int.toNat r1) a1)) (rs16 (([]:List (S_api_Kept)) ++ (List.take (Int.toNat r1) a1))) ∧ GoodR (rs16 (([]:List (S_api_Kept)) ++ (List.take (Int.toNat r1) a1))))] (AllP.cons (mkOb (by kernel_rfl) rfl (by kernel_rfl) (good_E_api_Kept _)) (AllP.cons hc5 (AllP.cons hc6 (AllP.cons (appOb rfl rfl (good_E_api_Kept _)) AllP.nil)))) (To.thenN (Wp.seq ?_))
   obtain ⟨hc3,h⟩:=chk_of h
   obtain ⟨hc4,h⟩:=chk_of h
   refine rr [] [(5,rs16 ((([]:List (S_api_Kept)) ++ (List.take (Int.toNat r1) a1)) ++ (List.drop (Int.toNat (IntKind.wrap .i64 (r1 + 1))) a1)))] [] [8,9] [56] [(8,.row 56),(9,vi 0)] [(56,134,[rc17 ((([]:List (S_api_Kept)) ++ (List.take (Int.toNat r1) a1)) ++ (List.drop (Int.toNat (IntKind.wrap .i64 (r1 + 1))) a1))])] [_,_,(AppOb zx2 E_api_Kept (([]:List (S_api_Kept)) ++ (List.take (Int.toNat r1) a1)) (List.flatMap E_api_Kept (List.drop (Int.toNat (IntKind.wrap .i64 (r1 + 1))) a1)) (List.length (List.drop (Int.toNat (IntKind.wrap .i64 (r1 + 1))) a1)) (rs16 ((([]:List (S_api_Kept)) ++ (List.take (Int.toNat r1) a1)) ++ (List.drop (Int.toNat (IntKind.wrap .i64 (r1 + 1))) a1))) ∧ GoodR (rs16 ((([]:List (S_api_Kept)) ++ (List.take (Int.toNat r1) a1)) ++ (List.drop (Int.toNat (IntKind.wrap .i64 (r1 + 1))) a1))))] (AllP.cons hc3 (AllP.cons hc4 (AllP.cons (appOb rfl rfl (good_E_api_Kept _)) AllP.nil))) (To.thenN (Wp.ret (To.pre (St.settle (ks:=[56]) (kk:=[8,9]) (kl:=[56]) (K':=[(8,.row 56),(9,vi 0)]) (L':=[(56,134,[rc18 ((([]:List (S_api_Kept)) ++ (List.take (Int.toNat r1) a1)) ++ (List.drop (Int.toNat (IntKind.wrap .i64 (r1 + 1))) a1))])]) (by kernel_rfl)) (To.pre (St.sealK [8] (K':=[(8,rs16 ((([]:List (S_api_Kept)) ++ (List.take (Int.toNat r1) a1)) ++ (List.drop (Int.toNat (IntKind.wrap .i64 (r1 + 1))) a1))),(9,vi 0)]) (by kernel_rfl)) ?_))))
   cases h
   exact To.done hΓ (by kernel_rfl)
  ·replace h:=sum_r h
   refine To.blockR (To.thenR ?_)
   cases h
   exact To.done hΓ (by kernel_rfl)
def ref32_New (a0:Int) (a1:S_api_Spec):S_ref32_Box :=
 (S_ref32_Box.mk a1 a0 1 0 0 0 (-1) false false (S_probe_State.mk 0 0 0 0))
abbrev qc21 (x:S_ref32_Box):List D:=[.str x.f_Spec.f_Name,.str x.f_Spec.f_Project,.str x.f_Spec.f_Service,vi x.f_Spec.f_Number,.str x.f_Spec.f_Hash,ls x.f_Spec.f_Nets,ls x.f_Spec.f_Vols,.str x.f_Spec.f_Health.f_Test,vi x.f_Spec.f_Health.f_Every,vi x.f_Spec.f_Health.f_Start,vi x.f_Spec.f_Health.f_Retries,vi x.f_Spec.f_Restart,vi x.f_Spec.f_Tries,vi x.f_Id,vi x.f_State,vi x.f_Code,vi x.f_Runs,vi x.f_Done,vi x.f_At,vb x.f_ByHand,vb x.f_Sick,vi x.f_Probe.f_Health,vi x.f_Probe.f_Fails,vi x.f_Probe.f_Began,vi x.f_Probe.f_Next]
theorem ok_ref32_New (a0:Int) (a1:S_api_Spec) (r:S_ref32_Box) (h:ref32_New a0 a1 = r):CallsX Tryz.prog 90 [vi a0,.agg (qc7 a1)] (.agg (qc21 r)):=by
 unfold ref32_New at h
 refine xo Tryz.f90 rfl fun F0 w0 _=>?_
 refine Wp.seq (rg [0,3,4] [3,4] [(0,vi a0),(3,.own 3 0),(4,.own 4 0)] [(3,38,(E_api_Spec a1)),(4,132,[.str [],.str [],.str [],vi 0,.str [],.val (.slice none 0 0),.val (.slice none 0 0),.str [],vi 0,vi 0,vi 0,vi 0,vi 0,vi 0,vi 0,vi 0,vi 0,vi 0,vi 0,vb false,vb false,vi 0,vi 0,vi 0,vi 0])] (To.thenN (Wp.seq (rg [4] [4] [(4,.own 4 0)] [(4,132,[.str a1.f_Name,.str a1.f_Project,.str a1.f_Service,vi a1.f_Number,.str a1.f_Hash,ls a1.f_Nets,ls a1.f_Vols,.str a1.f_Health.f_Test,vi a1.f_Health.f_Every,vi a1.f_Health.f_Start,vi a1.f_Health.f_Retries,vi a1.f_Restart,vi a1.f_Tries,vi a0,vi 1,vi 0,vi 0,vi 0,vi (-1),vb false,vb false,vi 0,vi 0,vi 0,vi 0])] (To.thenN (Wp.ret ?_))))))
 cases h
 exact To.done hΓ (by kernel_rfl)
theorem good_E_ref32_Box (l:List (S_ref32_Box)):GoodR (.recs Z_ref32_Box E_ref32_Box l):=⟨Nat.le_of_ble_eq_true (by kernel_rfl),fun _=>⟨rfl,rfl⟩⟩
def ref33_Store_make_l1 (n:Nat) (b2:S_ref33_Store) (b3:S_api_Spec):Nat → Int → S_ref33_Store → Option (Sum (S_ref33_Store) (Int × Int × S_ref33_Store))
 | 0,_,_=>none
 | k + 1,v7,b4=>if (decide (v7 < (List.length b2.f_Boxes:Int))) = true then (if (decide (0 ≤ v7 ∧ v7 < (List.length b2.f_Boxes:Int))) = true then (if ((((b2.f_Boxes)[Int.toNat v7]?.getD Z_ref32_Box).f_Spec.f_Name) == b3.f_Name) = true then (some (.inr (0,11,b2)))
 else (ref33_Store_make_l1 n b2 b3 k (IntKind.wrap .i64 (v7 + 1)) b4)) else none)
 else (some (.inl b4))
abbrev ex16 (x0:Int):Nat × D:=(7,vi (IntKind.wrap .i64 (x0 + 1)))
theorem ok_ref33_Store_make_l1 (n:Nat) (b2:S_ref33_Store) (b3:S_api_Spec) {F0:Fz} {w0:Pt Tryz.prog} {Q:Exit → Act → World → Prop} (k:Nat):∀ (v7:Int) (b4:S_ref33_Store) (o:Sum (S_ref33_Store) (Int × Int × S_ref33_Store)),ref33_Store_make_l1 n b2 b3 k v7 b4 = some o → (Sum.elim (fun s=>To 98 F0 w0 [(2,.own 2 0),(3,.own 3 0),(4,.own 4 0)] [(2,30,qc20 b2),(3,38,(E_api_Spec b3)),(4,30,qc20 s)] (.exit 0) Q) (fun s=>To 98 F0 w0 [(4,.own 4 0),(5,vi s.1),(6,vi s.2.1)] [(4,30,qc20 s.2.2)] .ret Q)) o → WL Tryz.prog 98 F0 w0 [(2,.own 2 0),(3,.own 3 0),(4,.own 4 0),(7,vi v7)] [(2,30,qc20 b2),(3,38,(E_api_Spec b3)),(4,30,qc20 b4)] (cI (cI (cB (cA (cB (cB (cF Tryz.f58))))))) Q:=by
 induction k with
 | zero=>intro v7 b4 o h; cases h
 | succ k ih =>
  intro v7 b4 o h hQ
  rw [ref33_Store_make_l1] at h
  refine WL.round (Wp.seq (Wp.seq (rg [2,3,4,7,26] [2,3,4] [(2,.own 2 0),(3,.own 3 0),(4,.own 4 0),(7,vi v7),(26,vb (decide (v7 < (ex15 b2))))] [(2,30,qc20 b2),(3,38,(E_api_Spec b3)),(4,30,qc20 b4)] (To.thenN (cn h (fun h=>?_) (fun h=>?_))))))
  ·refine Wp.skip (To.thenN (Wp.seq (Wp.block (Wp.seq ?_))))
   obtain ⟨hc1,h⟩:=chk_of h
   refine Wp.regionD hm hΓ [] [2,3,4,7,38] [2,3,4] (K':=[(2,.own 2 0),(3,.own 3 0),(4,.own 4 0),(7,vi v7),(38,vb (((ex14 b2 v7).f_Spec.f_Name) == b3.f_Name))]) (L':=[(2,30,qc20 b2),(3,38,(E_api_Spec b3)),(4,30,qc20 b4)]) (ob:=[(decide (0 ≤ v7 ∧ v7 < (ex15 b2))) = true]) (by kernel_rfl) (AllP.cons hc1 AllP.nil) (To.thenN (cn h (fun h=>?_) (fun h=>?_)))
   ·refine Wp.seq (rg [4,5,6] [4] [(4,.own 4 0),(5,vi 0),(6,vi 11)] [(4,30,qc20 b2)] (To.thenN (Wp.ret (To.blockR (To.thenR (To.thenR ?_))))))
    cases h
    exact hQ
   ·refine Wp.skip (To.blockN (To.thenN (rg [2,3,4,7] [2,3,4] [(2,.own 2 0),(3,.own 3 0),(4,.own 4 0),(ex16 v7)] [(2,30,qc20 b2),(3,38,(E_api_Spec b3)),(4,30,qc20 b4)] (kt [2,3,4,7] [2,3,4] [(2,.own 2 0),(3,.own 3 0),(4,.own 4 0),(ex16 v7)] [(2,30,qc20 b2),(3,38,(E_api_Spec b3)),(4,30,qc20 b4)] (To.again ?_)))))
    exact ih (IntKind.wrap .i64 (v7 + 1)) b4 _ h hQ
  ·refine Wp.exit (To.thenX (To.thenX (kt [2,3,4] [2,3,4] [(2,.own 2 0),(3,.own 3 0),(4,.own 4 0)] [(2,30,qc20 b2),(3,38,(E_api_Spec b3)),(4,30,qc20 b4)] ?_)))
   cases h
   exact hQ
def ref33_Store_make_l2 (n:Nat) (b2:S_ref33_Store) (b3:S_api_Spec):Nat → Int → S_ref33_Store → Option (Sum (S_ref33_Store) (Int × Int × S_ref33_Store))
 | 0,_,_=>none
 | k + 1,v8,b4=>if (decide (v8 < (List.length b3.f_Nets:Int))) = true then (if (decide (0 ≤ v8 ∧ v8 < (List.length b3.f_Nets:Int))) = true then ((ref33_at n b2.f_Nets ((b3.f_Nets)[Int.toNat v8]?.getD [])).bind fun r2 =>
 if (decide (r2 < 0)) = true then (some (.inr (0,12,b2)))
 else (ref33_Store_make_l2 n b2 b3 k (IntKind.wrap .i64 (v8 + 1)) b4)) else none)
 else (some (.inl b4))
theorem ok_ref33_Store_make_l2 (n:Nat) (b2:S_ref33_Store) (b3:S_api_Spec) {F0:Fz} {w0:Pt Tryz.prog} {Q:Exit → Act → World → Prop} (k:Nat):∀ (v8:Int) (b4:S_ref33_Store) (o:Sum (S_ref33_Store) (Int × Int × S_ref33_Store)),ref33_Store_make_l2 n b2 b3 k v8 b4 = some o → (Sum.elim (fun s=>To 98 F0 w0 [(2,.own 2 0),(3,.own 3 0),(4,.own 4 0)] [(2,30,qc20 b2),(3,38,(E_api_Spec b3)),(4,30,qc20 s)] (.exit 2) Q) (fun s=>To 98 F0 w0 [(4,.own 4 0),(5,vi s.1),(6,vi s.2.1)] [(4,30,qc20 s.2.2)] .ret Q)) o → WL Tryz.prog 98 F0 w0 [(2,.own 2 0),(3,.own 3 0),(4,.own 4 0),(8,vi v8)] [(2,30,qc20 b2),(3,38,(E_api_Spec b3)),(4,30,qc20 b4)] (cI (cI (cB (cA (cB (cB (cB (cF Tryz.f58)))))))) Q:=by
 induction k with
 | zero=>intro v8 b4 o h; cases h
 | succ k ih =>
  intro v8 b4 o h hQ
  rw [ref33_Store_make_l2] at h
  refine WL.round (Wp.seq (Wp.seq (rg [2,3,4,8,44] [2,3,4] [(2,.own 2 0),(3,.own 3 0),(4,.own 4 0),(8,vi v8),(44,vb (decide (v8 < (List.length b3.f_Nets:Int))))] [(2,30,qc20 b2),(3,38,(E_api_Spec b3)),(4,30,qc20 b4)] (To.thenN (cn h (fun h=>?_) (fun h=>?_))))))
  ·refine Wp.skip (To.thenN (Wp.seq (Wp.block (Wp.seq ?_))))
   obtain ⟨hc3,h⟩:=chk_of h
   obtain ⟨r2,hr2,h⟩:=bind_of h
   refine Wp.regionD hm hΓ [(7,vi r2)] [2,3,4,8,55] [2,3,4] (K':=[(2,.own 2 0),(3,.own 3 0),(4,.own 4 0),(8,vi v8),(55,vb (decide (r2 < 0)))]) (L':=[(2,30,qc20 b2),(3,38,(E_api_Spec b3)),(4,30,qc20 b4)]) (ob:=[(decide (0 ≤ v8 ∧ v8 < (List.length b3.f_Nets:Int))) = true,(true = true → CX Tryz.prog 68 [rs16 b2.f_Nets,.str ((b3.f_Nets)[Int.toNat v8]?.getD [])] (vi r2))]) (by kernel_rfl) (AllP.cons hc3 (AllP.cons (fun _=>cx (ok_ref33_at n b2.f_Nets ((b3.f_Nets)[Int.toNat v8]?.getD []) _ hr2)) AllP.nil)) (To.thenN (cn h (fun h=>?_) (fun h=>?_)))
   ·refine Wp.seq (rg [4,5,6] [4] [(4,.own 4 0),(5,vi 0),(6,vi 12)] [(4,30,qc20 b2)] (To.thenN (Wp.ret (To.blockR (To.thenR (To.thenR ?_))))))
    cases h
    exact hQ
   ·refine Wp.skip (To.blockN (To.thenN (rg [2,3,4,8] [2,3,4] [(2,.own 2 0),(3,.own 3 0),(4,.own 4 0),(ex4 v8)] [(2,30,qc20 b2),(3,38,(E_api_Spec b3)),(4,30,qc20 b4)] (kt [2,3,4,8] [2,3,4] [(2,.own 2 0),(3,.own 3 0),(4,.own 4 0),(ex4 v8)] [(2,30,qc20 b2),(3,38,(E_api_Spec b3)),(4,30,qc20 b4)] (To.again ?_)))))
    exact ih (IntKind.wrap .i64 (v8 + 1)) b4 _ h hQ
  ·refine Wp.exit (To.thenX (To.thenX (kt [2,3,4] [2,3,4] [(2,.own 2 0),(3,.own 3 0),(4,.own 4 0)] [(2,30,qc20 b2),(3,38,(E_api_Spec b3)),(4,30,qc20 b4)] ?_)))
   cases h
   exact hQ
def ref33_Store_make_l3 (n:Nat) (b2:S_ref33_Store) (b3:S_api_Spec):Nat → Int → S_ref33_Store → Option (Sum (S_ref33_Store) (Int × Int × S_ref33_Store))
 | 0,_,_=>none
 | k + 1,v9,b4=>if (decide (v9 < (List.length b3.f_Vols:Int))) = true then (if (decide (0 ≤ v9 ∧ v9 < (List.length b3.f_Vols:Int))) = true then ((ref33_at n b2.f_Vols ((b3.f_Vols)[Int.toNat v9]?.getD [])).bind fun r3 =>
 if (decide (r3 < 0)) = true then (some (.inr (0,12,b2)))
 else (ref33_Store_make_l3 n b2 b3 k (IntKind.wrap .i64 (v9 + 1)) b4)) else none)
 else (some (.inl b4))
theorem ok_ref33_Store_make_l3 (n:Nat) (b2:S_ref33_Store) (b3:S_api_Spec) {F0:Fz} {w0:Pt Tryz.prog} {Q:Exit → Act → World → Prop} (k:Nat):∀ (v9:Int) (b4:S_ref33_Store) (o:Sum (S_ref33_Store) (Int × Int × S_ref33_Store)),ref33_Store_make_l3 n b2 b3 k v9 b4 = some o → (Sum.elim (fun s=>To 98 F0 w0 [(2,.own 2 0),(3,.own 3 0),(4,.own 4 0)] [(2,30,qc20 b2),(3,38,(E_api_Spec b3)),(4,30,qc20 s)] (.exit 4) Q) (fun s=>To 98 F0 w0 [(4,.own 4 0),(5,vi s.1),(6,vi s.2.1)] [(4,30,qc20 s.2.2)] .ret Q)) o → WL Tryz.prog 98 F0 w0 [(2,.own 2 0),(3,.own 3 0),(4,.own 4 0),(9,vi v9)] [(2,30,qc20 b2),(3,38,(E_api_Spec b3)),(4,30,qc20 b4)] (cI (cI (cB (cA (cB (cB (cB (cB (cF Tryz.f58))))))))) Q:=by
 induction k with
 | zero=>intro v9 b4 o h; cases h
 | succ k ih =>
  intro v9 b4 o h hQ
  rw [ref33_Store_make_l3] at h
  refine WL.round (Wp.seq (Wp.seq (rg [2,3,4,9,61] [2,3,4] [(2,.own 2 0),(3,.own 3 0),(4,.own 4 0),(9,vi v9),(61,vb (decide (v9 < (List.length b3.f_Vols:Int))))] [(2,30,qc20 b2),(3,38,(E_api_Spec b3)),(4,30,qc20 b4)] (To.thenN (cn h (fun h=>?_) (fun h=>?_))))))
  ·refine Wp.skip (To.thenN (Wp.seq (Wp.block (Wp.seq ?_))))
   obtain ⟨hc4,h⟩:=chk_of h
   obtain ⟨r3,hr3,h⟩:=bind_of h
   refine Wp.regionD hm hΓ [(7,vi r3)] [2,3,4,9,72] [2,3,4] (K':=[(2,.own 2 0),(3,.own 3 0),(4,.own 4 0),(9,vi v9),(72,vb (decide (r3 < 0)))]) (L':=[(2,30,qc20 b2),(3,38,(E_api_Spec b3)),(4,30,qc20 b4)]) (ob:=[(decide (0 ≤ v9 ∧ v9 < (List.length b3.f_Vols:Int))) = true,(true = true → CX Tryz.prog 68 [rs16 b2.f_Vols,.str ((b3.f_Vols)[Int.toNat v9]?.getD [])] (vi r3))]) (by kernel_rfl) (AllP.cons hc4 (AllP.cons (fun _=>cx (ok_ref33_at n b2.f_Vols ((b3.f_Vols)[Int.toNat v9]?.getD []) _ hr3)) AllP.nil)) (To.thenN (cn h (fun h=>?_) (fun h=>?_)))
   ·refine Wp.seq (rg [4,5,6] [4] [(4,.own 4 0),(5,vi 0),(6,vi 12)] [(4,30,qc20 b2)] (To.thenN (Wp.ret (To.blockR (To.thenR (To.thenR ?_))))))
    cases h
    exact hQ
   ·refine Wp.skip (To.blockN (To.thenN (rg [2,3,4,9] [2,3,4] [(2,.own 2 0),(3,.own 3 0),(4,.own 4 0),(9,vi (IntKind.wrap .i64 (v9 + 1)))] [(2,30,qc20 b2),(3,38,(E_api_Spec b3)),(4,30,qc20 b4)] (kt [2,3,4,9] [2,3,4] [(2,.own 2 0),(3,.own 3 0),(4,.own 4 0),(9,vi (IntKind.wrap .i64 (v9 + 1)))] [(2,30,qc20 b2),(3,38,(E_api_Spec b3)),(4,30,qc20 b4)] (To.again ?_)))))
    exact ih (IntKind.wrap .i64 (v9 + 1)) b4 _ h hQ
  ·refine Wp.exit (To.thenX (To.thenX (kt [2,3,4] [2,3,4] [(2,.own 2 0),(3,.own 3 0),(4,.own 4 0)] [(2,30,qc20 b2),(3,38,(E_api_Spec b3)),(4,30,qc20 b4)] ?_)))
   cases h
   exact hQ
def ref33_Store_make (n:Nat) (a0:S_ref33_Store) (a1:S_api_Spec):Option (S_ref33_Store × Int × Int) :=
 if (bif (decide ((List.length a1.f_Name:Int) < 1)) then true else (decide ((List.length a1.f_Name:Int) > 128))) = true then (some (a0,0,2))
 else ((ref33_Store_make_l1 n a0 a1 n 0 (S_ref33_Store.mk [] [] [] 0)).bind fun o1 =>
 (Sum.elim (fun o1=>(ref33_Store_make_l2 n a0 a1 n 0 o1).bind fun o2 =>
 (Sum.elim (fun o2=>(ref33_Store_make_l3 n a0 a1 n 0 o2).bind fun o3 =>
 (Sum.elim (fun o3=>if (decide ((List.length a0.f_Boxes:Int) ≥ 64)) = true then (some (a0,0,14))
 else (if (decide ((List.length ([]:List (S_ref32_Box)) + List.length a0.f_Boxes) * (264 + 1) ≤ limit)) = true then (lett (ref32_New (IntKind.wrap .i64 (a0.f_Last + 1)) a1) fun r4 =>
 if (decide ((List.length (([]:List (S_ref32_Box)) ++ a0.f_Boxes) + List.length ([r4]:List (S_ref32_Box))) * (264 + 1) ≤ limit)) = true then (some ((S_ref33_Store.mk ((([]:List (S_ref32_Box)) ++ a0.f_Boxes) ++ ([r4]:List (S_ref32_Box))) a0.f_Nets a0.f_Vols (IntKind.wrap .i64 (a0.f_Last + 1))),(IntKind.wrap .i64 (a0.f_Last + 1)),0)) else none) else none)) (fun o3=>some (o3.2.2,o3.1,o3.2.1))) o3) (fun o2=>some (o2.2.2,o2.1,o2.2.1))) o2) (fun o1=>some (o1.2.2,o1.1,o1.2.1))) o1)
end Go.Proofs.YtaecmkldkljioaaGreat.M
