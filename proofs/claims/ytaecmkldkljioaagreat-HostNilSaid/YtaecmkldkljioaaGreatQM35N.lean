import Derived.Test.YtaecmkldkljioaaGreatQM35Nc
set_option linter.all false
namespace Go.Proofs.YtaecmkldkljioaaGreat.M
open Go.RowKit Go.Proofs.YtaecmkldkljioaaGreat.RX
set_option maxRecDepth 100000
theorem ok_life_Tick (a0:S_life_Box) (a1:Int) (r:S_life_Box × Int) (h:life_Tick a0 a1 = r):CallsX Tryz.prog 73 [.agg (qc3 a0),vi a1] (.tup [.agg (qc3 r.1),vi r.2]):=by
 unfold life_Tick at h
 refine xo Tryz.f73 rfl fun F0 w0 _=>?_
 refine Wp.seq (rg [1,2,4] [2,4] [(1,vi a1),(2,.own 2 0),(4,.own 4 0)] [(2,53,(E_life_Box a0)),(4,53,[.str [],.str [],.str [],vi 0,.str [],.val (.slice none 0 0),.val (.slice none 0 0),.str [],vi 0,vi 0,vi 0,vi 0,vi 0,vi 0,vi 0,vi 0,vi 0,vi 0,vi 0,vb false,vb false,vi 0,vi 0,vi 0,vi 0])] (To.thenN (Wp.seq (rc [] 1 [1,2,4,6] [2,4] [(1,vi a1),(2,.own 2 0),(4,.own 4 0),(6,vi (life_Next a0))] [(2,53,(E_life_Box a0)),(4,53,[.str [],.str [],.str [],vi 0,.str [],.val (.slice none 0 0),.val (.slice none 0 0),.str [],vi 0,vi 0,vi 0,vi 0,vi 0,vi 0,vi 0,vi 0,vi 0,vi 0,vi 0,vb false,vb false,vi 0,vi 0,vi 0,vi 0])] (ok_life_Next a0 _ rfl) (To.thenN (Wp.seq (Wp.seq (rg [2,4,6,15] [2,4] [(2,.own 2 0),(4,.own 4 0),(6,vi (life_Next a0)),(15,vb (bif ((life_Next a0) == (-1)) then true else (decide ((life_Next a0) > a1))))] [(2,53,(E_life_Box a0)),(4,53,[.str [],.str [],.str [],vi 0,.str [],.val (.slice none 0 0),.val (.slice none 0 0),.str [],vi 0,vi 0,vi 0,vi 0,vi 0,vi 0,vi 0,vi 0,vi 0,vi 0,vi 0,vb false,vb false,vi 0,vi 0,vi 0,vi 0])] (To.thenN (cn h (fun h=>?_) (fun h=>?_)))))))))))
 ·refine Wp.seq (rg [4,5] [4] [(4,.own 4 0),(5,vi 0)] [(4,53,(E_life_Box a0))] (To.thenN (Wp.ret (To.thenR ?_))))
  cases h
  exact To.done hΓ (by kernel_rfl)
 ·refine Wp.skip (To.thenN (Wp.seq (Wp.seq (rg [2,4,6,19] [2,4] [(2,.own 2 0),(4,.own 4 0),(6,vi (life_Next a0)),(19,vb (a0.f_State == 2))] [(2,53,(E_life_Box a0)),(4,53,[.str [],.str [],.str [],vi 0,.str [],.val (.slice none 0 0),.val (.slice none 0 0),.str [],vi 0,vi 0,vi 0,vi 0,vi 0,vi 0,vi 0,vi 0,vi 0,vi 0,vi 0,vb false,vb false,vi 0,vi 0,vi 0,vi 0])] (To.thenN (cn h (fun h=>?_) (fun h=>?_)))))))
  ·refine Wp.seq ?_
   obtain ⟨r1,hr1,h⟩:=lett_of h
   refine rc [] 8 [2,4] [2,4] [(2,.own 2 0),(4,.own 4 0)] [(2,53,(List.set (List.set (List.set (List.set (E_life_Box a0) 21 (vi r1.1.f_Health)) 22 (vi r1.1.f_Fails)) 23 (vi r1.1.f_Began)) 24 (vi r1.1.f_Next))),(4,53,[.str [],.str [],.str [],vi 0,.str [],.val (.slice none 0 0),.val (.slice none 0 0),.str [],vi 0,vi 0,vi 0,vi 0,vi 0,vi 0,vi 0,vi 0,vi 0,vi 0,vi 0,vb false,vb false,vi 0,vi 0,vi 0,vi 0])] (ok_probe_Ask a0.f_Spec.f_Health a0.f_Probe (life_Next a0) a0.f_Sick _ hr1) (To.thenN (Wp.seq (rg [4,5] [4] [(4,.own 4 0),(5,vi 1)] [(4,53,(List.set (List.set (List.set (List.set (E_life_Box a0) 21 (vi r1.1.f_Health)) 22 (vi r1.1.f_Fails)) 23 (vi r1.1.f_Began)) 24 (vi r1.1.f_Next)))] (To.thenN (Wp.ret (To.thenR ?_))))))
   cases h
   exact To.done hΓ (by kernel_rfl)
  ·refine Wp.skip (To.thenN (Wp.seq (rg [2,4,6] [2,4] [(2,.own 2 0),(4,.own 4 0),(6,vi (life_Next a0))] [(2,53,(List.set (E_life_Box a0) 17 (vi (IntKind.wrap .i64 (a0.f_Done + 1))))),(4,53,[.str [],.str [],.str [],vi 0,.str [],.val (.slice none 0 0),.val (.slice none 0 0),.str [],vi 0,vi 0,vi 0,vi 0,vi 0,vi 0,vi 0,vi 0,vi 0,vi 0,vi 0,vb false,vb false,vi 0,vi 0,vi 0,vi 0])] (To.thenN (Wp.seq ?_)))))
   obtain ⟨r2,hr2,h⟩:=lett_of h
   refine rc [] 2 [4,5] [4] [(4,.own 4 0),(5,vi 2)] [(4,53,(E_life_Box r2))] (ok_life_run (S_life_Box.mk a0.f_Spec a0.f_Id a0.f_State a0.f_Code a0.f_Runs (IntKind.wrap .i64 (a0.f_Done + 1)) a0.f_At a0.f_ByHand a0.f_Sick a0.f_Probe) (life_Next a0) _ hr2) (To.thenN (Wp.ret ?_))
   cases h
   exact To.done hΓ (by kernel_rfl)
def host_Host_Tick__o0_j2 (n:Nat) (v5:Int) (v6:List (S_host_Event)) (v9:Int) (v10:Int) (v12:Int) (v50:Bool) (b7:S_life_Box) (b11:S_life_Box) (b1000000:S_host_Host):Option ((List (S_host_Event))) :=
 if v50 = true then (if (decide ((List.length v6 + List.length ([(S_host_Event.mk v9 2 b7.f_Id 0)]:List (S_host_Event))) * (32 + 1) ≤ limit)) = true then (some (v6 ++ ([(S_host_Event.mk v9 2 b7.f_Id 0)]:List (S_host_Event)))) else none)
 else some v6
abbrev rc32 (l:List (S_host_Event)):D:=.rowc false (α:=S_host_Event) zx4 E_host_Event l
abbrev ex21 (x0:Int) (x1:S_life_Box):=([(S_host_Event.mk x0 2 x1.f_Id 0)]:List (S_host_Event))
theorem ok_host_Host_Tick__o0_j2 (n:Nat) (v5:Int) (v6:List (S_host_Event)) (v9:Int) (v10:Int) (v12:Int) (v50:Bool) (b7:S_life_Box) (b11:S_life_Box) (b1000000:S_host_Host) (o:(List (S_host_Event))) (h:host_Host_Tick__o0_j2 n v5 v6 v9 v10 v12 v50 b7 b11 b1000000 = some o) {F0:Fz} {w0:Pt Tryz.prog} {Q:Exit → Act → World → Prop} (hQ:To 81 F0 w0 [(0,.own 1000000 0),(5,vi v5),(6,.row 1006),(7,.own 7 0),(9,vi v9),(10,vi v10),(11,.own 11 0),(12,vi v12)] ((7,53,(E_life_Box b7))::(11,53,(E_life_Box b11))::(1006,137,[rc32 o])::qh18 1000000 1010060 1010061 1010062 1010063 b1000000) .normal Q):Wp Tryz.prog 81 F0 w0 [(0,.own 1000000 0),(5,vi v5),(6,.row 1006),(7,.own 7 0),(9,vi v9),(10,vi v10),(11,.own 11 0),(12,vi v12),(50,vb v50)] ((7,53,(E_life_Box b7))::(11,53,(E_life_Box b11))::(1006,137,[rc32 v6])::qh18 1000000 1010060 1010061 1010062 1010063 b1000000) (cB (cA (cB (cB (cB (cB (cB (cI (cI (cI (cA (cB (cB (cB (cB (cF Tryz.f38)))))))))))))))) Q:=by
 unfold host_Host_Tick__o0_j2 at h
 refine cn h (fun h=>?_) (fun h=>?_)
 ·obtain ⟨hc6,h⟩:=chk_of h
  refine rr [] [(5,rs5 [(S_host_Event.mk v9 2 b7.f_Id 0)]),(6,rs5 (v6 ++ (ex21 v9 b7)))] [] [0,5,6,7,9,10,11,12] [7,11,57,1000000,1010060,1010061,1010062,1010063] [(0,.own 1000000 0),(5,vi v5),(6,.row 57),(7,.own 7 0),(9,vi v9),(10,vi v10),(11,.own 11 0),(12,vi v12)] ((7,53,(E_life_Box b7))::(11,53,(E_life_Box b11))::(57,137,[rc32 (v6 ++ (ex21 v9 b7))])::qh18 1000000 1010060 1010061 1010062 1010063 b1000000) [(MkOb 4 [vi v9,vi 2,vi b7.f_Id,vi 0] 1 (rs5 [(S_host_Event.mk v9 2 b7.f_Id 0)]) ∧ GoodR (rs5 [(S_host_Event.mk v9 2 b7.f_Id 0)])),_,(AppOb zx4 E_host_Event v6 (List.flatMap E_host_Event (ex21 v9 b7)) (List.length (ex21 v9 b7)) (rs5 (v6 ++ (ex21 v9 b7))) ∧ GoodR (rs5 (v6 ++ (ex21 v9 b7))))] (AllP.cons (mkOb (by kernel_rfl) rfl (by kernel_rfl) (good_E_host_Event _)) (AllP.cons hc6 (AllP.cons (appOb rfl rfl (good_E_host_Event _)) AllP.nil))) (nt [0,5,6,7,9,10,11,12] [7,11,57,1000000,1010060,1010061,1010062,1010063] [(57,1006)] [0,5,6,7,9,10,11,12] [7,11,1006,1000000,1010060,1010061,1010062,1010063] [(0,.own 1000000 0),(5,vi v5),(6,.row 1006),(7,.own 7 0),(9,vi v9),(10,vi v10),(11,.own 11 0),(12,vi v12)] ((7,53,(E_life_Box b7))::(11,53,(E_life_Box b11))::(1006,137,[rc32 (v6 ++ (ex21 v9 b7))])::qh18 1000000 1010060 1010061 1010062 1010063 b1000000) ?_)
  cases h
  exact hQ
 ·refine Wp.skip (kt [0,5,6,7,9,10,11,12] [7,11,1006,1000000,1010060,1010061,1010062,1010063] [(0,.own 1000000 0),(5,vi v5),(6,.row 1006),(7,.own 7 0),(9,vi v9),(10,vi v10),(11,.own 11 0),(12,vi v12)] ((7,53,(E_life_Box b7))::(11,53,(E_life_Box b11))::(1006,137,[rc32 v6])::qh18 1000000 1010060 1010061 1010062 1010063 b1000000) ?_)
  cases h
  exact hQ
def host_Host_Tick__o0_l1 (n:Nat) (v5:Int):Nat → (List (S_host_Event)) → S_host_Host → Option ((List (S_host_Event)) × S_host_Host)
 | 0,_,_=>none
 | k + 1,v6,b1000000=>(host_Host_next__o0 n v5 b1000000).bind fun r2 =>
 if (!r2.2.1) = true then (some (v6,r2.2.2))
 else (lett (life_Seen r2.1) fun r3 =>
 lett (life_Tick r2.1 v5) fun r4 =>
 (store_Store_Put__o0 n r4.1 r2.2.2.f_Store).bind fun r5 =>
 (host_Host_Tick__o0_j2 n v5 v6 (life_Next r2.1) r3.f_Health r4.2 (r4.2 == 2) r2.1 r4.1 (S_host_Host.mk r5.2 r2.2.2.f_plan r2.2.2.f_now)).bind fun o6 =>
 lett (life_Seen r4.1) fun r7 =>
 if (bif (r4.2 == 1) then (r7.f_Health != r3.f_Health) else false) = true then (if (decide ((List.length o6 + List.length ([(S_host_Event.mk (life_Next r2.1) 3 r2.1.f_Id r7.f_Health)]:List (S_host_Event))) * (32 + 1) ≤ limit)) = true then (host_Host_Tick__o0_l1 n v5 k (o6 ++ ([(S_host_Event.mk (life_Next r2.1) 3 r2.1.f_Id r7.f_Health)]:List (S_host_Event))) (S_host_Host.mk r5.2 r2.2.2.f_plan r2.2.2.f_now)) else none)
 else (host_Host_Tick__o0_l1 n v5 k o6 (S_host_Host.mk r5.2 r2.2.2.f_plan r2.2.2.f_now)))
theorem ok_host_Host_Tick__o0_l1 (n:Nat) (v5:Int) {F0:Fz} {w0:Pt Tryz.prog} {Q:Exit → Act → World → Prop} (k:Nat):∀ (v6:List (S_host_Event)) (b1000000:S_host_Host) (o:(List (S_host_Event)) × S_host_Host),host_Host_Tick__o0_l1 n v5 k v6 b1000000 = some o → To 81 F0 w0 [(0,.own 1000000 0),(5,vi v5),(6,.row 1006)] ((1006,137,[rc32 o.1])::qh18 1000000 1010060 1010061 1010062 1010063 o.2) (.exit 0) Q → WL Tryz.prog 81 F0 w0 [(0,.own 1000000 0),(5,vi v5),(6,.row 1006)] ((1006,137,[rc32 v6])::qh18 1000000 1010060 1010061 1010062 1010063 b1000000) (cI (cI (cA (cB (cB (cB (cB (cF Tryz.f38)))))))) Q:=by
 induction k with
 | zero=>intro v6 b1000000 o h; cases h
 | succ k ih =>
  intro v6 b1000000 o h hQ
  rw [host_Host_Tick__o0_l1] at h
  refine WL.round (Wp.block (Wp.seq ?_))
  obtain ⟨r2,hr2,h⟩:=bind_of h
  refine rb [] 2 ⟨[(1000000,1000000),(1010060,1010060),(1010061,1010061),(1010062,1010062),(1010063,1010063)],[(1000000,1000000),(1010060,1010060),(1010061,1010061),(1010062,1010062),(1010063,1010063)],[.own 1000000 0,vi v5],(qh18 1000000 1010060 1010061 1010062 1010063 b1000000),.tup [.agg (qc3 r2.1),vb r2.2.1],(qh18 1000000 1010060 1010061 1010062 1010063 r2.2.2)⟩ [0,5,6,7,8] [7,1006,1000000,1010060,1010061,1010062,1010063] [(0,.own 1000000 0),(5,vi v5),(6,.row 1006),(7,.own 7 0),(8,vb r2.2.1)] ((7,53,(E_life_Box r2.1))::(1006,137,[rc32 v6])::qh18 1000000 1010060 1010061 1010062 1010063 r2.2.2) ((ok_host_Host_next__o0 n v5 b1000000 _ hr2)) (To.thenN (Wp.seq (Wp.seq (rg [0,5,6,7,31] [7,1006,1000000,1010060,1010061,1010062,1010063] [(0,.own 1000000 0),(5,vi v5),(6,.row 1006),(7,.own 7 0),(31,vb (!r2.2.1))] ((7,53,(E_life_Box r2.1))::(1006,137,[rc32 v6])::qh18 1000000 1010060 1010061 1010062 1010063 r2.2.2) (To.thenN (cn h (fun h=>?_) (fun h=>?_)))))))
  ·refine Wp.exit (To.thenX (To.blockO (by decide) (To.thenX (kt [0,5,6] [1006,1000000,1010060,1010061,1010062,1010063] [(0,.own 1000000 0),(5,vi v5),(6,.row 1006)] ((1006,137,[rc32 v6])::qh18 1000000 1010060 1010061 1010062 1010063 r2.2.2) ?_))))
   cases h
   exact hQ
  ·refine Wp.skip (To.thenN (Wp.seq ?_))
   obtain ⟨r3,hr3,h⟩:=lett_of h
   refine Wp.regionO hm hΓ [] [(1,vi (life_Next r2.1)),(3,.agg (qc28 r3))] [] [0,5,6,7,9,10,31,32,33,34,35,36] [7,1006,1000000,1010060,1010061,1010062,1010063] [0,5,6,7,9,10] [7,1006,1000000,1010060,1010061,1010062,1010063] (K':=[(0,.own 1000000 0),(5,vi v5),(6,.row 1006),(7,.own 7 0),(9,vi (life_Next r2.1)),(10,vi r3.f_Health)]) (L':=((7,53,(E_life_Box r2.1))::(1006,137,[rc32 v6])::qh18 1000000 1010060 1010061 1010062 1010063 r2.2.2)) (ob:=[(true = true → CX Tryz.prog 72 [.agg (qc3 r2.1)] (vi (life_Next r2.1))),(true = true → CX Tryz.prog 63 [.agg (qc3 r2.1)] (.agg (qc28 r3)))]) (by kernel_rfl) (by kernel_rfl) (AllP.cons (fun _=>cx (ok_life_Next r2.1 _ rfl)) (AllP.cons (fun _=>cx (ok_life_Seen r2.1 _ hr3)) AllP.nil)) (To.thenN (Wp.seq ?_))
   obtain ⟨r4,hr4,h⟩:=lett_of h
   refine rc [] 2 [0,5,6,7,9,10,11,12] [7,11,1006,1000000,1010060,1010061,1010062,1010063] [(0,.own 1000000 0),(5,vi v5),(6,.row 1006),(7,.own 7 0),(9,vi (life_Next r2.1)),(10,vi r3.f_Health),(11,.own 11 0),(12,vi r4.2)] ((7,53,(E_life_Box r2.1))::(11,53,(E_life_Box r4.1))::(1006,137,[rc32 v6])::qh18 1000000 1010060 1010061 1010062 1010063 r2.2.2) (ok_life_Tick r2.1 v5 _ hr4) (To.thenN (Wp.seq ?_))
   obtain ⟨r5,hr5,h⟩:=bind_of h
   refine Wp.regionO hm hΓ [] [] [(5,⟨[(1000000,1010060),(1010060,1010061),(1010061,1010062),(1010062,1010063)],[(1000000,1010060),(1010060,1010061),(1010061,1010062),(1010062,1010063)],[.own 1000000 0,.agg (qc3 r4.1)],(qf11 1000000 1010060 1010061 1010062 r2.2.2.f_Store),vb r5.1,(qf11 1000000 1010060 1010061 1010062 r5.2)⟩)] [0,5,6,7,9,10,11,12,43,44,45,46,47,48] [7,11,1006,1000000,1010060,1010061,1010062,1010063] [0,5,6,7,9,10,11,12] [7,11,1006,1000000,1010060,1010061,1010062,1010063] (K':=[(0,.own 1000000 0),(5,vi v5),(6,.row 1006),(7,.own 7 0),(9,vi (life_Next r2.1)),(10,vi r3.f_Health),(11,.own 11 0),(12,vi r4.2)]) (L':=((7,53,(E_life_Box r2.1))::(11,53,(E_life_Box r4.1))::(1006,137,[rc32 v6])::(1000000,139,[.own 1010060 0,rs13 r2.2.2.f_plan.f_l,vi r2.2.2.f_plan.f_more,vi r2.2.2.f_now])::qf11 1010060 1010061 1010062 1010063 r5.2)) (ob:=[CbOb (CallsB Tryz.prog) 23 [.own 1010060 0,.agg (qc3 r4.1)] (ps26 1010061 1010062 1010063 r2.2.2.f_Store) ⟨[(1000000,1010060),(1010060,1010061),(1010061,1010062),(1010062,1010063)],[(1000000,1010060),(1010060,1010061),(1010061,1010062),(1010062,1010063)],[.own 1000000 0,.agg (qc3 r4.1)],(qf11 1000000 1010060 1010061 1010062 r2.2.2.f_Store),vb r5.1,(qf11 1000000 1010060 1010061 1010062 r5.2)⟩]) (by kernel_rfl) (by kernel_rfl) (AllP.cons (⟨(ok_store_Store_Put__o0 n r4.1 r2.2.2.f_Store _ hr5),by kernel_rfl,by kernel_rfl⟩) AllP.nil) ?_
   refine To.thenN (Wp.seq (Wp.seq (rg [0,5,6,7,9,10,11,12,50] [7,11,1006,1000000,1010060,1010061,1010062,1010063] [(0,.own 1000000 0),(5,vi v5),(6,.row 1006),(7,.own 7 0),(9,vi (life_Next r2.1)),(10,vi r3.f_Health),(11,.own 11 0),(12,vi r4.2),(50,vb (r4.2 == 2))] ((7,53,(E_life_Box r2.1))::(11,53,(E_life_Box r4.1))::(1006,137,[rc32 v6])::(1000000,139,[.own 1010060 0,rs13 r2.2.2.f_plan.f_l,vi r2.2.2.f_plan.f_more,vi r2.2.2.f_now])::qf11 1010060 1010061 1010062 1010063 r5.2) (To.thenN ?_))))
   obtain ⟨o6,ho6,h⟩:=bind_of h
   refine kw [0,5,6,7,9,10,11,12,50] [7,11,1006,1000000,1010060,1010061,1010062,1010063] [(0,.own 1000000 0),(5,vi v5),(6,.row 1006),(7,.own 7 0),(9,vi (life_Next r2.1)),(10,vi r3.f_Health),(11,.own 11 0),(12,vi r4.2),(50,vb (r4.2 == 2))] ((7,53,(E_life_Box r2.1))::(11,53,(E_life_Box r4.1))::(1006,137,[rc32 v6])::(1000000,139,[.own 1010060 0,rs13 r2.2.2.f_plan.f_l,vi r2.2.2.f_plan.f_more,vi r2.2.2.f_now])::qf11 1010060 1010061 1010062 1010063 r5.2) (ok_host_Host_Tick__o0_j2 n v5 v6 (life_Next r2.1) r3.f_Health r4.2 (r4.2 == 2) r2.1 r4.1 (S_host_Host.mk r5.2 r2.2.2.f_plan r2.2.2.f_now) o6 ho6 (To.thenN (Wp.seq ?_)))
   obtain ⟨r7,hr7,h⟩:=lett_of h
   refine rc [] 1 [0,5,6,7,9,10,12,13] [7,1006,1000000,1010060,1010061,1010062,1010063] [(0,.own 1000000 0),(5,vi v5),(6,.row 1006),(7,.own 7 0),(9,vi (life_Next r2.1)),(10,vi r3.f_Health),(12,vi r4.2),(13,vi r7.f_Health)] ((7,53,(E_life_Box r2.1))::(1006,137,[rc32 o6])::(1000000,139,[.own 1010060 0,rs13 r2.2.2.f_plan.f_l,vi r2.2.2.f_plan.f_more,vi r2.2.2.f_now])::qf11 1010060 1010061 1010062 1010063 r5.2) (ok_life_Seen r4.1 _ hr7) (To.thenN (Wp.seq (rg [0,5,6,7,9,13,67] [7,1006,1000000,1010060,1010061,1010062,1010063] [(0,.own 1000000 0),(5,vi v5),(6,.row 1006),(7,.own 7 0),(9,vi (life_Next r2.1)),(13,vi r7.f_Health),(67,vb (bif (r4.2 == 1) then (r7.f_Health != r3.f_Health) else false))] ((7,53,(E_life_Box r2.1))::(1006,137,[rc32 o6])::(1000000,139,[.own 1010060 0,rs13 r2.2.2.f_plan.f_l,vi r2.2.2.f_plan.f_more,vi r2.2.2.f_now])::qf11 1010060 1010061 1010062 1010063 r5.2) (To.thenN (cn h (fun h=>?_) (fun h=>?_))))))
   ·obtain ⟨hc8,h⟩:=chk_of h
    refine rr [] [(6,rs5 [(S_host_Event.mk (life_Next r2.1) 3 r2.1.f_Id r7.f_Health)]),(7,rs5 (o6 ++ ([(S_host_Event.mk (life_Next r2.1) 3 r2.1.f_Id r7.f_Health)]:List (S_host_Event))))] [] [0,5,6] [75,1000000,1010060,1010061,1010062,1010063] [(0,.own 1000000 0),(5,vi v5),(6,.row 75)] ((75,137,[rc32 (o6 ++ ([(S_host_Event.mk (life_Next r2.1) 3 r2.1.f_Id r7.f_Health)]:List (S_host_Event)))])::(1000000,139,[.own 1010060 0,rs13 r2.2.2.f_plan.f_l,vi r2.2.2.f_plan.f_more,vi r2.2.2.f_now])::qf11 1010060 1010061 1010062 1010063 r5.2) [(MkOb 4 [vi (life_Next r2.1),vi 3,vi r2.1.f_Id,vi r7.f_Health] 1 (rs5 [(S_host_Event.mk (life_Next r2.1) 3 r2.1.f_Id r7.f_Health)]) ∧ GoodR (rs5 [(S_host_Event.mk (life_Next r2.1) 3 r2.1.f_Id r7.f_Health)])),_,(AppOb zx4 E_host_Event o6 (List.flatMap E_host_Event ([(S_host_Event.mk (life_Next r2.1) 3 r2.1.f_Id r7.f_Health)]:List (S_host_Event))) (List.length ([(S_host_Event.mk (life_Next r2.1) 3 r2.1.f_Id r7.f_Health)]:List (S_host_Event))) (rs5 (o6 ++ ([(S_host_Event.mk (life_Next r2.1) 3 r2.1.f_Id r7.f_Health)]:List (S_host_Event)))) ∧ GoodR (rs5 (o6 ++ ([(S_host_Event.mk (life_Next r2.1) 3 r2.1.f_Id r7.f_Health)]:List (S_host_Event)))))] (AllP.cons (mkOb (by kernel_rfl) rfl (by kernel_rfl) (good_E_host_Event _)) (AllP.cons hc8 (AllP.cons (appOb rfl rfl (good_E_host_Event _)) AllP.nil))) (To.blockN (nt [0,5,6] [75,1000000,1010060,1010061,1010062,1010063] [(75,1006)] [0,5,6] [1006,1000000,1010060,1010061,1010062,1010063] [(0,.own 1000000 0),(5,vi v5),(6,.row 1006)] ((1006,137,[rc32 (o6 ++ ([(S_host_Event.mk (life_Next r2.1) 3 r2.1.f_Id r7.f_Health)]:List (S_host_Event)))])::(1000000,139,[.own 1010060 0,rs13 r2.2.2.f_plan.f_l,vi r2.2.2.f_plan.f_more,vi r2.2.2.f_now])::qf11 1010060 1010061 1010062 1010063 r5.2) (To.again ?_)))
    exact ih (o6 ++ ([(S_host_Event.mk (life_Next r2.1) 3 r2.1.f_Id r7.f_Health)]:List (S_host_Event))) (S_host_Host.mk r5.2 r2.2.2.f_plan r2.2.2.f_now) _ h hQ
   ·refine Wp.skip (To.blockN (kt [0,5,6] [1006,1000000,1010060,1010061,1010062,1010063] [(0,.own 1000000 0),(5,vi v5),(6,.row 1006)] ((1006,137,[rc32 o6])::(1000000,139,[.own 1010060 0,rs13 r2.2.2.f_plan.f_l,vi r2.2.2.f_plan.f_more,vi r2.2.2.f_now])::qf11 1010060 1010061 1010062 1010063 r5.2) (To.again ?_)))
    exact ih o6 (S_host_Host.mk r5.2 r2.2.2.f_plan r2.2.2.f_now) _ h hQ
def host_Host_Tick__o0 (n:Nat) (a1:Int) (h0:S_host_Host):Option ((List (S_host_Event)) × S_host_Host) :=
 lett ((IntKind.wrap .i64 (h0.f_now + (if (10000:Int) < (if (0:Int) > a1 then 0 else a1) then 10000 else (if (0:Int) > a1 then 0 else a1)))):Int) fun x1 =>
 (host_Host_Tick__o0_l1 n x1 n ([]:List (S_host_Event)) h0).bind fun o2 =>
 some (o2.1,(S_host_Host.mk o2.2.f_Store o2.2.f_plan x1))
abbrev rc33 (l:List (S_host_Event)):D:=.rowc true (α:=S_host_Event) zx4 E_host_Event l
theorem ok_host_Host_Tick__o0 (n:Nat) (a1:Int) (h0:S_host_Host) (r:(List (S_host_Event)) × S_host_Host) (h:host_Host_Tick__o0 n a1 h0 = some r):CallsB Tryz.prog 38 [.own 1000000 0,vi a1] (qh18 1000000 1010060 1010061 1010062 1010063 h0) (rs5 r.1) (qh18 1000000 1010060 1010061 1010062 1010063 r.2):=by
 unfold host_Host_Tick__o0 at h
 refine bo Tryz.f38 rfl fun F0 w0=>?_
 refine Wp.seq (rg [0,1] [1000000,1010060,1010061,1010062,1010063] [(0,.own 1000000 0),(1,vi a1)] (qh18 1000000 1010060 1010061 1010062 1010063 h0) (To.thenN (Wp.seq (Wp.seq (rg [0,1,15] [1000000,1010060,1010061,1010062,1010063] [(0,.own 1000000 0),(1,vi a1),(15,vb false)] (qh18 1000000 1010060 1010061 1010062 1010063 h0) (To.thenN (Wp.cond (b:=false) (by kernel_rfl) (fun hb=>by cases hb) (fun _=>(Wp.skip (To.thenN (Wp.seq ?_)))))))))))
 obtain ⟨x1,hx1,h⟩:=lett_of h
 refine rg [0,5] [1000000,1010060,1010061,1010062,1010063] [(0,.own 1000000 0),(5,vi (IntKind.wrap .i64 (h0.f_now + (if (10000:Int) < (ex1 a1) then 10000 else (ex1 a1)))))] (qh18 1000000 1010060 1010061 1010062 1010063 h0) (To.eq (K':=[(0,.own 1000000 0),(5,vi x1)]) (L':=(qh18 1000000 1010060 1010061 1010062 1010063 h0)) (by cases hx1; rfl) (by cases hx1; rfl) (To.thenN (Wp.seq (rg [0,5,6] [1000000,1010060,1010061,1010062,1010063] [(0,.own 1000000 0),(5,vi x1),(6,.val (.slice none 0 0))] (qh18 1000000 1010060 1010061 1010062 1010063 h0) (To.thenN (Wp.seq (Wp.block ?_)))))))
 obtain ⟨o2,ho2,h⟩:=bind_of h
 refine kw [0,5,6] [1000000,1010060,1010061,1010062,1010063] [(0,.own 1000000 0),(5,vi x1),(6,.val (.slice none 0 0))] (qh18 1000000 1010060 1010061 1010062 1010063 h0) (Wp.pre (St.vacant (t:=6) (k:=1006) (e:=137) (K':=[(0,.own 1000000 0),(5,vi x1),(6,.row 1006)]) (good_E_host_Event _) (by decide) (by kernel_rfl) (by kernel_rfl)) (kw [0,5,6] [1006,1000000,1010060,1010061,1010062,1010063] [(0,.own 1000000 0),(5,vi x1),(6,.row 1006)] ((1006,137,[rc32 []])::qh18 1000000 1010060 1010061 1010062 1010063 h0) (Wp.loopL (ok_host_Host_Tick__o0_l1 n x1 n ([]:List (S_host_Event)) h0 o2 ho2 (To.blockX (To.thenN (Wp.seq (rg [6] [1006,1000000,1010060,1010061,1010062,1010063] [(6,.row 1006)] ((1006,137,[rc32 o2.1])::(1000000,139,[.own 1010060 0,rs13 o2.2.f_plan.f_l,vi o2.2.f_plan.f_more,vi x1])::qf11 1010060 1010061 1010062 1010063 o2.2.f_Store) (To.thenN (Wp.seq ?_))))))))))
 refine rg [4] [1006,1000000,1010060,1010061,1010062,1010063] [(4,.row 1006)] ((1006,137,[rc32 o2.1])::(1000000,139,[.own 1010060 0,rs13 o2.2.f_plan.f_l,vi o2.2.f_plan.f_more,vi x1])::qf11 1010060 1010061 1010062 1010063 o2.2.f_Store) (To.thenN (Wp.ret (To.pre (St.settle (ks:=[1006]) (kk:=[4]) (kl:=[1006,1000000,1010060,1010061,1010062,1010063]) (K':=[(4,.row 1006)]) (L':=((1006,137,[rc33 o2.1])::(1000000,139,[.own 1010060 0,rs13 o2.2.f_plan.f_l,vi o2.2.f_plan.f_more,vi x1])::qf11 1010060 1010061 1010062 1010063 o2.2.f_Store)) (by kernel_rfl)) (To.pre (St.sealK [4] (K':=[(4,rs5 o2.1)]) (by kernel_rfl)) ?_))))
 cases h
 exact To.doneB hΓ [1000000,1010060,1010061,1010062,1010063] (by kernel_rfl) (by kernel_rfl)
def host_Host_Now__o0 (h0:S_host_Host):Int × S_host_Host :=
 (h0.f_now,h0)
theorem ok_host_Host_Now__o0 (h0:S_host_Host) (r:Int × S_host_Host) (h:host_Host_Now__o0 h0 = r):CallsB Tryz.prog 40 [.own 1000000 0] (qh18 1000000 1010060 1010061 1010062 1010063 h0) (vi r.1) (qh18 1000000 1010060 1010061 1010062 1010063 r.2):=by
 unfold host_Host_Now__o0 at h
 refine bo Tryz.f40 rfl fun F0 w0=>?_
 refine Wp.seq (rg [0] [1000000,1010060,1010061,1010062,1010063] [(0,.own 1000000 0)] (qh18 1000000 1010060 1010061 1010062 1010063 h0) (To.thenN (Wp.seq (Wp.seq (rg [0,4] [1000000,1010060,1010061,1010062,1010063] [(0,.own 1000000 0),(4,vb false)] (qh18 1000000 1010060 1010061 1010062 1010063 h0) (To.thenN (Wp.cond (b:=false) (by kernel_rfl) (fun hb=>by cases hb) (fun _=>(Wp.skip (To.thenN (Wp.seq ?_)))))))))))
 refine rg [2] [1000000,1010060,1010061,1010062,1010063] [(2,vi h0.f_now)] (qh18 1000000 1010060 1010061 1010062 1010063 h0) (To.thenN (Wp.ret ?_))
 cases h
 exact To.doneB hΓ [1000000,1010060,1010061,1010062,1010063] (by kernel_rfl) (by kernel_rfl)
def law35_awake (n:Nat):Option (Bool) :=
 (host_New_o n []).bind fun r1 =>
 (host_Host_Call__o0 n (S_api_Call.mk 5 [] 0 (S_api_Spec.mk [99] [] [] 0 [] [] [] (S_api_Check.mk [116] 5 0 2) 0 0)) r1).bind fun r2 =>
 (host_Host_Call__o0 n (S_api_Call.mk 6 [] r2.1 (S_api_Spec.mk [] [] [] 0 [] [] [] (S_api_Check.mk [] 0 0 0) 0 0)) r2.2.2).bind fun r3 =>
 (host_Host_Sick__o0 n r2.1 true r3.2.2).bind fun r4 =>
 (host_Host_Tick__o0 n 10 r4.2).bind fun r5 =>
 if ((!(((List.length r5.1:Int) == 1) == true) || decide (0 ≤ (0:Int) ∧ (0:Int) < (List.length r5.1:Int)))) = true then (lett ((if ((bif ((List.length r5.1:Int) == 1) then ((((r5.1)[Int.toNat 0]?.getD (S_host_Event.mk 0 0 0 0)).f_At == 10) && ((((r5.1)[Int.toNat 0]?.getD (S_host_Event.mk 0 0 0 0)).f_Kind == 3) && ((((r5.1)[Int.toNat 0]?.getD (S_host_Event.mk 0 0 0 0)).f_Id == 1) && (((r5.1)[Int.toNat 0]?.getD (S_host_Event.mk 0 0 0 0)).f_What == 3)))) else false) == true) = true then host_Host_Now__o0 r5.2 else (0,r5.2))) fun r6 =>
 lett ((bif (bif ((List.length r5.1:Int) == 1) then ((((r5.1)[Int.toNat 0]?.getD (S_host_Event.mk 0 0 0 0)).f_At == 10) && ((((r5.1)[Int.toNat 0]?.getD (S_host_Event.mk 0 0 0 0)).f_Kind == 3) && ((((r5.1)[Int.toNat 0]?.getD (S_host_Event.mk 0 0 0 0)).f_Id == 1) && (((r5.1)[Int.toNat 0]?.getD (S_host_Event.mk 0 0 0 0)).f_What == 3)))) else false) then (r6.1 == 10) else false):Bool) fun x7 =>
 some x7) else none
theorem ok_law35_awake (n:Nat) (r:Bool) (h:law35_awake n = some r):CallsX Tryz.prog 26 [] (vb r):=by
 unfold law35_awake at h
 refine xo Tryz.f26 rfl fun F0 w0 _=>?_
 refine Wp.seq (rg [] [] [] [] (To.thenN (Wp.seq ?_)))
 obtain ⟨r1,hr1,h⟩:=bind_of h
 refine rb [] 0 ⟨[],[(1,5),(2,700202),(3,700203),(4,700204),(5,700205)],[.val (.slice none 0 0)],[],.own 1 0,(qh18 1 2 3 4 5 r1)⟩ [1] [5,700202,700203,700204,700205] [(1,.own 5 0)] (qh18 5 700202 700203 700204 700205 r1) (callsB_args (.cons (.zero _ _) .nil) .nil (ok_host_New_o n [] _ hr1)) (To.thenN (Wp.seq ?_))
 obtain ⟨r2,hr2,h⟩:=bind_of h
 refine rb [] 4 ⟨[(1000000,5),(1010060,700202),(1010061,700203),(1010062,700204),(1010063,700205)],[(1000000,5),(1010060,700202),(1010061,700203),(1010062,700204),(1010063,700205)],[.own 1000000 0,.agg [vi 5,.str [],vi 0,.str [99],.str [],.str [],vi 0,.str [],.val (.slice none 0 0),.val (.slice none 0 0),.str [116],vi 5,vi 0,vi 2,vi 0,vi 0]],(qh18 1000000 1010060 1010061 1010062 1010063 r1),.tup [vi r2.1,vi r2.2.1],(qh18 1000000 1010060 1010061 1010062 1010063 r2.2.2)⟩ [1,2] [5,700202,700203,700204,700205] [(1,.own 5 0),(2,vi r2.1)] (qh18 5 700202 700203 700204 700205 r2.2.2) (callsB_args (.cons (.refl _) (.cons (.agg (.cons (.refl _) (.cons (.refl _) (.cons (.refl _) (.cons (.refl _) (.cons (.refl _) (.cons (.refl _) (.cons (.refl _) (.cons (.refl _) (.cons (.zero _ _) (.cons (.zero _ _) (.cons (.refl _) (.cons (.refl _) (.cons (.refl _) (.cons (.refl _) (.cons (.refl _) (.cons (.refl _) .nil))))))))))))))))) .nil)) (.cons (.cons (.refl _) (.cons (.refl _) (.cons (.refl _) (.cons (.refl _) .nil)))) (.cons (.cons (.refl _) (.cons (.refl _) (.cons (.refl _) (.cons (.refl _) .nil)))) (.cons (.cons (.refl _) .nil) (.cons (.cons (.refl _) .nil) (.cons (.cons (.refl _) .nil) .nil))))) (ok_host_Host_Call__o0 n (S_api_Call.mk 5 [] 0 (S_api_Spec.mk [99] [] [] 0 [] [] [] (S_api_Check.mk [116] 5 0 2) 0 0)) r1 _ hr2)) (To.thenN (Wp.seq ?_))
 obtain ⟨r3,hr3,h⟩:=bind_of h
 refine rb [] 3 ⟨[(1000000,5),(1010060,700202),(1010061,700203),(1010062,700204),(1010063,700205)],[(1000000,5),(1010060,700202),(1010061,700203),(1010062,700204),(1010063,700205)],[.own 1000000 0,.agg [vi 6,.str [],vi r2.1,.str [],.str [],.str [],vi 0,.str [],.val (.slice none 0 0),.val (.slice none 0 0),.str [],vi 0,vi 0,vi 0,vi 0,vi 0]],(qh18 1000000 1010060 1010061 1010062 1010063 r2.2.2),.tup [vi r3.1,vi r3.2.1],(qh18 1000000 1010060 1010061 1010062 1010063 r3.2.2)⟩ [1,2] [5,700202,700203,700204,700205] [(1,.own 5 0),(2,vi r2.1)] (qh18 5 700202 700203 700204 700205 r3.2.2) (callsB_args (.cons (.refl _) (.cons (.agg (.cons (.refl _) (.cons (.refl _) (.cons (.refl _) (.cons (.refl _) (.cons (.refl _) (.cons (.refl _) (.cons (.refl _) (.cons (.refl _) (.cons (.zero _ _) (.cons (.zero _ _) (.cons (.refl _) (.cons (.refl _) (.cons (.refl _) (.cons (.refl _) (.cons (.refl _) (.cons (.refl _) .nil))))))))))))))))) .nil)) (.cons (.cons (.refl _) (.cons (.refl _) (.cons (.refl _) (.cons (.refl _) .nil)))) (.cons (.cons (.refl _) (.cons (.refl _) (.cons (.refl _) (.cons (.refl _) .nil)))) (.cons (.cons (.refl _) .nil) (.cons (.cons (.refl _) .nil) (.cons (.cons (.refl _) .nil) .nil))))) (ok_host_Host_Call__o0 n (S_api_Call.mk 6 [] r2.1 (S_api_Spec.mk [] [] [] 0 [] [] [] zx24 0 0)) r2.2.2 _ hr3)) (To.thenN (Wp.seq ?_))
 obtain ⟨r4,hr4,h⟩:=bind_of h
 refine rb [] 2 ⟨[(1000000,5),(1010060,700202),(1010061,700203),(1010062,700204),(1010063,700205)],[(1000000,5),(1010060,700202),(1010061,700203),(1010062,700204),(1010063,700205)],[.own 1000000 0,vi r2.1,vb true],(qh18 1000000 1010060 1010061 1010062 1010063 r3.2.2),vb r4.1,(qh18 1000000 1010060 1010061 1010062 1010063 r4.2)⟩ [1] [5,700202,700203,700204,700205] [(1,.own 5 0)] (qh18 5 700202 700203 700204 700205 r4.2) ((ok_host_Host_Sick__o0 n r2.1 true r3.2.2 _ hr4)) (To.thenN (Wp.seq ?_))
 obtain ⟨r5,hr5,h⟩:=bind_of h
 refine rb [] 1 ⟨[(1000000,5),(1010060,700202),(1010061,700203),(1010062,700204),(1010063,700205)],[(1000000,5),(1010060,700202),(1010061,700203),(1010062,700204),(1010063,700205)],[.own 1000000 0,vi 10],(qh18 1000000 1010060 1010061 1010062 1010063 r4.2),rs5 r5.1,(qh18 1000000 1010060 1010061 1010062 1010063 r5.2)⟩ [1,4] [5,700202,700203,700204,700205] [(1,.own 5 0),(4,rs5 r5.1)] (qh18 5 700202 700203 700204 700205 r5.2) ((ok_host_Host_Tick__o0 n 10 r4.2 _ hr5)) (To.thenN (Wp.seq ?_))
 obtain ⟨hc8,h⟩:=chk_of h
 obtain ⟨r6,hr6,h⟩:=lett_of h
 obtain ⟨x7,hx7,h⟩:=lett_of h
 refine rr [] [] [(12,⟨[(1000000,5),(1010060,700202),(1010061,700203),(1010062,700204),(1010063,700205)],[(1000000,5),(1010060,700202),(1010061,700203),(1010062,700204),(1010063,700205)],[.own 1000000 0],(qh18 1000000 1010060 1010061 1010062 1010063 r5.2),vi r6.1,(qh18 1000000 1010060 1010061 1010062 1010063 r6.2)⟩)] [0] [] [(0,vb (bif (bif ((List.length r5.1:Int) == 1) then ((((r5.1)[Int.toNat 0]?.getD zx4).f_At == 10) && ((((r5.1)[Int.toNat 0]?.getD zx4).f_Kind == 3) && ((((r5.1)[Int.toNat 0]?.getD zx4).f_Id == 1) && (((r5.1)[Int.toNat 0]?.getD zx4).f_What == 3)))) else false) then (r6.1 == 10) else false))] [] [_,(((bif ((List.length r5.1:Int) == 1) then ((((r5.1)[Int.toNat 0]?.getD zx4).f_At == 10) && ((((r5.1)[Int.toNat 0]?.getD zx4).f_Kind == 3) && ((((r5.1)[Int.toNat 0]?.getD zx4).f_Id == 1) && (((r5.1)[Int.toNat 0]?.getD zx4).f_What == 3)))) else false) == true) = true → CbOb (CallsB Tryz.prog) 40 [.own 5 0] (ph27 700202 700203 700204 700205 r5.2) ⟨[(1000000,5),(1010060,700202),(1010061,700203),(1010062,700204),(1010063,700205)],[(1000000,5),(1010060,700202),(1010061,700203),(1010062,700204),(1010063,700205)],[.own 1000000 0],(qh18 1000000 1010060 1010061 1010062 1010063 r5.2),vi r6.1,(qh18 1000000 1010060 1010061 1010062 1010063 r6.2)⟩),(((bif ((List.length r5.1:Int) == 1) then ((((r5.1)[Int.toNat 0]?.getD zx4).f_At == 10) && ((((r5.1)[Int.toNat 0]?.getD zx4).f_Kind == 3) && ((((r5.1)[Int.toNat 0]?.getD zx4).f_Id == 1) && (((r5.1)[Int.toNat 0]?.getD zx4).f_What == 3)))) else false) == true) = false → KeepOb (qh18 5 700202 700203 700204 700205 r5.2) ⟨[(1000000,5),(1010060,700202),(1010061,700203),(1010062,700204),(1010063,700205)],[(1000000,5),(1010060,700202),(1010061,700203),(1010062,700204),(1010063,700205)],[.own 1000000 0],(qh18 1000000 1010060 1010061 1010062 1010063 r5.2),vi r6.1,(qh18 1000000 1010060 1010061 1010062 1010063 r6.2)⟩)] (AllP.cons hc8 (AllP.cons (fun hg=>⟨(ok_host_Host_Now__o0 r5.2 _ (if_t hg hr6)),by kernel_rfl,by kernel_rfl⟩) (AllP.cons (fun hg=>by cases if_f hg hr6; exact keepOb (by kernel_rfl)) AllP.nil))) ?_
 refine To.eq (K':=[(0,vb x7)]) (L':=[]) (by cases hx7; rfl) (by cases hx7; rfl) (To.thenN (Wp.ret ?_))
 cases h
 exact To.done hΓ (by kernel_rfl)
def E_law35_Deed:S_law35_Deed → List D:=fun x=>[.val (.int .i64 x.f_Kind),.val (.int .i64 x.f_N),.val (.int .i64 x.f_M),.val (.int .i64 x.f_Call.f_Kind),.str x.f_Call.f_Name,.val (.int .i64 x.f_Call.f_Id),.str x.f_Call.f_Spec.f_Name,.str x.f_Call.f_Spec.f_Project,.str x.f_Call.f_Spec.f_Service,.val (.int .i64 x.f_Call.f_Spec.f_Number),.str x.f_Call.f_Spec.f_Hash,.recs (α:=List UInt8) [] E_string x.f_Call.f_Spec.f_Nets,.recs (α:=List UInt8) [] E_string x.f_Call.f_Spec.f_Vols,.str x.f_Call.f_Spec.f_Health.f_Test,.val (.int .i64 x.f_Call.f_Spec.f_Health.f_Every),.val (.int .i64 x.f_Call.f_Spec.f_Health.f_Start),.val (.int .i64 x.f_Call.f_Spec.f_Health.f_Retries),.val (.int .i64 x.f_Call.f_Spec.f_Restart),.val (.int .i64 x.f_Call.f_Spec.f_Tries)]
def law35_HostNil (n:Nat) (a0:S_law35_Deed):Option (Bool) :=
 lett (host_Host_Fault__v (S_fault_Gap.mk a0.f_N a0.f_M)) fun r1 =>
 lett (host_Host_Call__v a0.f_Call) fun r2 =>
 lett (host_Host_Box__v a0.f_N) fun r3 =>
 ((if ((bif (r2.2 == 1) then (!r3.2) else false) == true) = true then host_Host_Sick__v n a0.f_N true else some false)).bind fun r4 =>
 ((if ((bif (bif (bif (r2.2 == 1) then (!r3.2) else false) then (!r4) else false) then ((host_Host_Now__v) == 0) else false) == true) = true then host_Host_Exit__v n a0.f_N a0.f_M else some [])).bind fun r5 =>
 ((if ((bif (bif (bif (bif (r2.2 == 1) then (!r3.2) else false) then (!r4) else false) then ((host_Host_Now__v) == 0) else false) then ((IntKind.wrap .i64 ((IntKind.wrap .i64 ((IntKind.wrap .i64 ((IntKind.wrap .i64 ((List.length (host_Host_Tick__v a0.f_N):Int) + (List.length r5:Int))) + (List.length (host_Host_Boxes__v):Int))) + (List.length (host_Host_Nets__v):Int))) + (List.length (host_Host_Vols__v):Int))) == 0) else false) == true) = true then law35_awake n else some false)).bind fun r6 =>
 lett ((bif (bif (bif (bif (bif (r2.2 == 1) then (!r3.2) else false) then (!r4) else false) then ((host_Host_Now__v) == 0) else false) then ((IntKind.wrap .i64 ((IntKind.wrap .i64 ((IntKind.wrap .i64 ((IntKind.wrap .i64 ((List.length (host_Host_Tick__v a0.f_N):Int) + (List.length r5:Int))) + (List.length (host_Host_Boxes__v):Int))) + (List.length (host_Host_Nets__v):Int))) + (List.length (host_Host_Vols__v):Int))) == 0) else false) then r6 else false):Bool) fun x7 =>
 some x7
abbrev qc34 (x:S_law35_Deed):List D:=[vi x.f_Kind,vi x.f_N,vi x.f_M,vi x.f_Call.f_Kind,.str x.f_Call.f_Name,vi x.f_Call.f_Id,.str x.f_Call.f_Spec.f_Name,.str x.f_Call.f_Spec.f_Project,.str x.f_Call.f_Spec.f_Service,vi x.f_Call.f_Spec.f_Number,.str x.f_Call.f_Spec.f_Hash,ls x.f_Call.f_Spec.f_Nets,ls x.f_Call.f_Spec.f_Vols,.str x.f_Call.f_Spec.f_Health.f_Test,vi x.f_Call.f_Spec.f_Health.f_Every,vi x.f_Call.f_Spec.f_Health.f_Start,vi x.f_Call.f_Spec.f_Health.f_Retries,vi x.f_Call.f_Spec.f_Restart,vi x.f_Call.f_Spec.f_Tries]
theorem ok_law35_HostNil (n:Nat) (a0:S_law35_Deed) (r:Bool) (h:law35_HostNil n a0 = some r):CallsX Tryz.prog 7 [.agg (qc34 a0)] (vb r):=by
 unfold law35_HostNil at h
 refine xo Tryz.f7 rfl fun F0 w0 _=>?_
 refine Wp.seq (rg [1] [1] [(1,.own 1 0)] [(1,75,(E_law35_Deed a0))] (To.thenN (Wp.seq (rg [1,3] [1] [(1,.own 1 0),(3,.val (.pointer none))] [(1,75,(E_law35_Deed a0))] (To.thenN (Wp.seq ?_))))))
 obtain ⟨r1,hr1,h⟩:=lett_of h
 refine rc [] 6 [1,3] [1] [(1,.own 1 0),(3,.val (.pointer none))] [(1,75,(E_law35_Deed a0))] (ok_host_Host_Fault__v (S_fault_Gap.mk a0.f_N a0.f_M) _ hr1) (To.thenN (Wp.seq ?_))
 obtain ⟨r2,hr2,h⟩:=lett_of h
 refine rc [] 3 [1,3,5] [1] [(1,.own 1 0),(3,.val (.pointer none)),(5,vi r2.2)] [(1,75,(E_law35_Deed a0))] (ok_host_Host_Call__v a0.f_Call _ hr2) (To.thenN (Wp.seq ?_))
 obtain ⟨r3,hr3,h⟩:=lett_of h
 refine rc [] 3 [1,3,5,7] [1] [(1,.own 1 0),(3,.val (.pointer none)),(5,vi r2.2),(7,vb r3.2)] [(1,75,(E_law35_Deed a0))] (ok_host_Host_Box__v a0.f_N _ hr3) (To.thenN (Wp.seq ?_))
 obtain ⟨r4,hr4,h⟩:=bind_of h
 obtain ⟨r5,hr5,h⟩:=bind_of h
 obtain ⟨r6,hr6,h⟩:=bind_of h
 obtain ⟨x7,hx7,h⟩:=lett_of h
 refine Wp.regionD hm hΓ [(10,vb r4),(15,vi (host_Host_Now__v)),(22,rs5 (host_Host_Tick__v a0.f_N)),(29,rs5 r5),(33,rs6 (host_Host_Boxes__v)),(37,rs8 (host_Host_Nets__v)),(41,rs8 (host_Host_Vols__v)),(47,vb r6)] [2] [] (K':=[(2,vb (bif (bif (bif (bif (bif (r2.2 == 1) then (!r3.2) else false) then (!r4) else false) then ((host_Host_Now__v) == 0) else false) then ((IntKind.wrap .i64 ((IntKind.wrap .i64 ((IntKind.wrap .i64 ((IntKind.wrap .i64 ((List.length (host_Host_Tick__v a0.f_N):Int) + (List.length r5:Int))) + (List.length (host_Host_Boxes__v):Int))) + (List.length (host_Host_Nets__v):Int))) + (List.length (host_Host_Vols__v):Int))) == 0) else false) then r6 else false))]) (L':=[]) (ob:=[(((bif (r2.2 == 1) then (!r3.2) else false) == true) = true → CX Tryz.prog 46 [.val (.pointer none),vi a0.f_N,vb true] (vb r4)),(((bif (bif (r2.2 == 1) then (!r3.2) else false) then (!r4) else false) == true) = true → CX Tryz.prog 40 [.val (.pointer none)] (vi (host_Host_Now__v))),(((bif (bif (bif (r2.2 == 1) then (!r3.2) else false) then (!r4) else false) then ((host_Host_Now__v) == 0) else false) == true) = true → CX Tryz.prog 38 [.val (.pointer none),vi a0.f_N] (rs5 (host_Host_Tick__v a0.f_N))),(((bif (bif (bif (r2.2 == 1) then (!r3.2) else false) then (!r4) else false) then ((host_Host_Now__v) == 0) else false) == true) = true → CX Tryz.prog 47 [.val (.pointer none),vi a0.f_N,vi a0.f_M] (rs5 r5)),(((bif (bif (bif (r2.2 == 1) then (!r3.2) else false) then (!r4) else false) then ((host_Host_Now__v) == 0) else false) == true) = true → CX Tryz.prog 31 [.val (.pointer none)] (rs6 (host_Host_Boxes__v))),(((bif (bif (bif (r2.2 == 1) then (!r3.2) else false) then (!r4) else false) then ((host_Host_Now__v) == 0) else false) == true) = true → CX Tryz.prog 32 [.val (.pointer none)] (rs8 (host_Host_Nets__v))),(((bif (bif (bif (r2.2 == 1) then (!r3.2) else false) then (!r4) else false) then ((host_Host_Now__v) == 0) else false) == true) = true → CX Tryz.prog 33 [.val (.pointer none)] (rs8 (host_Host_Vols__v))),(((bif (bif (bif (bif (r2.2 == 1) then (!r3.2) else false) then (!r4) else false) then ((host_Host_Now__v) == 0) else false) then ((IntKind.wrap .i64 ((IntKind.wrap .i64 ((IntKind.wrap .i64 ((IntKind.wrap .i64 ((List.length (host_Host_Tick__v a0.f_N):Int) + (List.length r5:Int))) + (List.length (host_Host_Boxes__v):Int))) + (List.length (host_Host_Nets__v):Int))) + (List.length (host_Host_Vols__v):Int))) == 0) else false) == true) = true → CX Tryz.prog 26 [] (vb r6))]) (by kernel_rfl) (AllP.cons (fun hg=>cx (ok_host_Host_Sick__v n a0.f_N true _ (if_t hg hr4))) (AllP.cons (fun _=>cx (ok_host_Host_Now__v  _ rfl)) (AllP.cons (fun _=>cx (ok_host_Host_Tick__v a0.f_N _ rfl)) (AllP.cons (fun hg=>cx (ok_host_Host_Exit__v n a0.f_N a0.f_M _ (if_t hg hr5))) (AllP.cons (fun _=>cx (ok_host_Host_Boxes__v  _ rfl)) (AllP.cons (fun _=>cx (ok_host_Host_Nets__v  _ rfl)) (AllP.cons (fun _=>cx (ok_host_Host_Vols__v  _ rfl)) (AllP.cons (fun hg=>cx (ok_law35_awake n  _ (if_t hg hr6))) AllP.nil)))))))) (To.eq (K':=[(2,vb x7)]) (L':=[]) (by cases hx7; rfl) (by cases hx7; rfl) (To.thenN (Wp.ret ?_)))
 cases h
 exact To.done hΓ (by kernel_rfl)
theorem opens_i64:Opens Tryz.prog 3 (fun n:Int=>IntKind.min .i64 ≤ n ∧ n ≤ IntKind.max .i64) (fun n=>[.val (.int .i64 n)]):=opens_int (by kernel_rfl)
theorem opens_string:Opens Tryz.prog 9 (fun l:List UInt8=>l.length ≤ maxLen) (fun l=>[.str l]):=opens_str (by kernel_rfl)
def W_Lstring (l:List (List UInt8)):Prop:=l.length ≤ maxLen ∧ ∀ x ∈ l,(List.length x ≤ maxLen)
theorem opens_Lstring:Opens Tryz.prog 34 W_Lstring (fun l=>[.recs (α:=List UInt8) [] E_string l]):=opens_slice (α:=List UInt8) (cells:=E_string) [] (by kernel_rfl) (by kernel_rfl) (of_decide_eq_true (by kernel_rfl)) opens_string
def W_api_Check (x:S_api_Check):Prop:=(List.length x.f_Test ≤ maxLen) ∧ (IntKind.min .i64 ≤ x.f_Every ∧ x.f_Every ≤ IntKind.max .i64) ∧ (IntKind.min .i64 ≤ x.f_Start ∧ x.f_Start ≤ IntKind.max .i64) ∧ (IntKind.min .i64 ≤ x.f_Retries ∧ x.f_Retries ≤ IntKind.max .i64)
theorem opens_api_Check:Opens Tryz.prog 36 W_api_Check (fun x=>[.str x.f_Test,.val (.int .i64 x.f_Every),.val (.int .i64 x.f_Start),.val (.int .i64 x.f_Retries)]):=by
 intro H enc W fuel cs d ps h
 obtain ⟨hl,hf⟩:=field_of Tryz.underlying36 h
 have hl:cs.length = 4:=hl.trans (by kernel_rfl)
 obtain ⟨x0,w0,r0⟩:=hf 0 _ rfl opens_string
 have r0:=repAt (a':=0) (b':=1) r0 (by kernel_rfl) (by kernel_rfl)
 obtain ⟨x1,w1,r1⟩:=hf 1 _ rfl opens_i64
 have r1:=repAt (a':=1) (b':=1) r1 (by kernel_rfl) (by kernel_rfl)
 obtain ⟨x2,w2,r2⟩:=hf 2 _ rfl opens_i64
 have r2:=repAt (a':=2) (b':=1) r2 (by kernel_rfl) (by kernel_rfl)
 obtain ⟨x3,w3,r3⟩:=hf 3 _ rfl opens_i64
 have r3:=repAt (a':=3) (b':=1) r3 (by kernel_rfl) (by kernel_rfl)
 refine ⟨⟨x0,x1,x2,x3⟩,⟨w0,w1,w2,w3⟩,?_⟩
 refine parts_all (l:=[([.str x0],1),([.val (.int .i64 x1)],1),([.val (.int .i64 x2)],1),([.val (.int .i64 x3)],1)]) ⟨r0,r1,r2,r3,Nat.le_of_eq hl⟩ rfl
def W_api_Spec (x:S_api_Spec):Prop:=(List.length x.f_Name ≤ maxLen) ∧ (List.length x.f_Project ≤ maxLen) ∧ (List.length x.f_Service ≤ maxLen) ∧ (IntKind.min .i64 ≤ x.f_Number ∧ x.f_Number ≤ IntKind.max .i64) ∧ (List.length x.f_Hash ≤ maxLen) ∧ (W_Lstring x.f_Nets) ∧ (W_Lstring x.f_Vols) ∧ (W_api_Check x.f_Health) ∧ (IntKind.min .i64 ≤ x.f_Restart ∧ x.f_Restart ≤ IntKind.max .i64) ∧ (IntKind.min .i64 ≤ x.f_Tries ∧ x.f_Tries ≤ IntKind.max .i64)
theorem opens_api_Spec:Opens Tryz.prog 38 W_api_Spec (fun x=>[.str x.f_Name,.str x.f_Project,.str x.f_Service,.val (.int .i64 x.f_Number),.str x.f_Hash,.recs (α:=List UInt8) [] E_string x.f_Nets,.recs (α:=List UInt8) [] E_string x.f_Vols,.str x.f_Health.f_Test,.val (.int .i64 x.f_Health.f_Every),.val (.int .i64 x.f_Health.f_Start),.val (.int .i64 x.f_Health.f_Retries),.val (.int .i64 x.f_Restart),.val (.int .i64 x.f_Tries)]):=by
 intro H enc W fuel cs d ps h
 obtain ⟨hl,hf⟩:=field_of Tryz.underlying38 h
 have hl:cs.length = 13:=hl.trans (by kernel_rfl)
 obtain ⟨x0,w0,r0⟩:=hf 0 _ rfl opens_string
 have r0:=repAt (a':=0) (b':=1) r0 (by kernel_rfl) (by kernel_rfl)
 obtain ⟨x1,w1,r1⟩:=hf 1 _ rfl opens_string
 have r1:=repAt (a':=1) (b':=1) r1 (by kernel_rfl) (by kernel_rfl)
 obtain ⟨x2,w2,r2⟩:=hf 2 _ rfl opens_string
 have r2:=repAt (a':=2) (b':=1) r2 (by kernel_rfl) (by kernel_rfl)
 obtain ⟨x3,w3,r3⟩:=hf 3 _ rfl opens_i64
 have r3:=repAt (a':=3) (b':=1) r3 (by kernel_rfl) (by kernel_rfl)
 obtain ⟨x4,w4,r4⟩:=hf 4 _ rfl opens_string
 have r4:=repAt (a':=4) (b':=1) r4 (by kernel_rfl) (by kernel_rfl)
 obtain ⟨x5,w5,r5⟩:=hf 5 _ rfl opens_Lstring
 have r5:=repAt (a':=5) (b':=1) r5 (by kernel_rfl) (by kernel_rfl)
 obtain ⟨x6,w6,r6⟩:=hf 6 _ rfl opens_Lstring
 have r6:=repAt (a':=6) (b':=1) r6 (by kernel_rfl) (by kernel_rfl)
 obtain ⟨x7,w7,r7⟩:=hf 7 _ rfl opens_api_Check
 have r7:=repAt (a':=7) (b':=4) r7 (by kernel_rfl) (by kernel_rfl)
 obtain ⟨x8,w8,r8⟩:=hf 8 _ rfl opens_i64
 have r8:=repAt (a':=11) (b':=1) r8 (by kernel_rfl) (by kernel_rfl)
 obtain ⟨x9,w9,r9⟩:=hf 9 _ rfl opens_i64
 have r9:=repAt (a':=12) (b':=1) r9 (by kernel_rfl) (by kernel_rfl)
 refine ⟨⟨x0,x1,x2,x3,x4,x5,x6,x7,x8,x9⟩,⟨w0,w1,w2,w3,w4,w5,w6,w7,w8,w9⟩,?_⟩
 refine parts_all (l:=[([.str x0],1),([.str x1],1),([.str x2],1),([.val (.int .i64 x3)],1),([.str x4],1),([.recs (α:=List UInt8) [] E_string x5],1),([.recs (α:=List UInt8) [] E_string x6],1),([.str x7.f_Test,.val (.int .i64 x7.f_Every),.val (.int .i64 x7.f_Start),.val (.int .i64 x7.f_Retries)],4),([.val (.int .i64 x8)],1),([.val (.int .i64 x9)],1)]) ⟨r0,r1,r2,r3,r4,r5,r6,r7,r8,r9,Nat.le_of_eq hl⟩ rfl
def W_api_Call (x:S_api_Call):Prop:=(IntKind.min .i64 ≤ x.f_Kind ∧ x.f_Kind ≤ IntKind.max .i64) ∧ (List.length x.f_Name ≤ maxLen) ∧ (IntKind.min .i64 ≤ x.f_Id ∧ x.f_Id ≤ IntKind.max .i64) ∧ (W_api_Spec x.f_Spec)
theorem opens_api_Call:Opens Tryz.prog 40 W_api_Call (fun x=>[.val (.int .i64 x.f_Kind),.str x.f_Name,.val (.int .i64 x.f_Id),.str x.f_Spec.f_Name,.str x.f_Spec.f_Project,.str x.f_Spec.f_Service,.val (.int .i64 x.f_Spec.f_Number),.str x.f_Spec.f_Hash,.recs (α:=List UInt8) [] E_string x.f_Spec.f_Nets,.recs (α:=List UInt8) [] E_string x.f_Spec.f_Vols,.str x.f_Spec.f_Health.f_Test,.val (.int .i64 x.f_Spec.f_Health.f_Every),.val (.int .i64 x.f_Spec.f_Health.f_Start),.val (.int .i64 x.f_Spec.f_Health.f_Retries),.val (.int .i64 x.f_Spec.f_Restart),.val (.int .i64 x.f_Spec.f_Tries)]):=by
 intro H enc W fuel cs d ps h
 obtain ⟨hl,hf⟩:=field_of Tryz.underlying40 h
 have hl:cs.length = 16:=hl.trans (by kernel_rfl)
 obtain ⟨x0,w0,r0⟩:=hf 0 _ rfl opens_i64
 have r0:=repAt (a':=0) (b':=1) r0 (by kernel_rfl) (by kernel_rfl)
 obtain ⟨x1,w1,r1⟩:=hf 1 _ rfl opens_string
 have r1:=repAt (a':=1) (b':=1) r1 (by kernel_rfl) (by kernel_rfl)
 obtain ⟨x2,w2,r2⟩:=hf 2 _ rfl opens_i64
 have r2:=repAt (a':=2) (b':=1) r2 (by kernel_rfl) (by kernel_rfl)
 obtain ⟨x3,w3,r3⟩:=hf 3 _ rfl opens_api_Spec
 have r3:=repAt (a':=3) (b':=13) r3 (by kernel_rfl) (by kernel_rfl)
 refine ⟨⟨x0,x1,x2,x3⟩,⟨w0,w1,w2,w3⟩,?_⟩
 refine parts_all (l:=[([.val (.int .i64 x0)],1),([.str x1],1),([.val (.int .i64 x2)],1),([.str x3.f_Name,.str x3.f_Project,.str x3.f_Service,.val (.int .i64 x3.f_Number),.str x3.f_Hash,.recs (α:=List UInt8) [] E_string x3.f_Nets,.recs (α:=List UInt8) [] E_string x3.f_Vols,.str x3.f_Health.f_Test,.val (.int .i64 x3.f_Health.f_Every),.val (.int .i64 x3.f_Health.f_Start),.val (.int .i64 x3.f_Health.f_Retries),.val (.int .i64 x3.f_Restart),.val (.int .i64 x3.f_Tries)],13)]) ⟨r0,r1,r2,r3,Nat.le_of_eq hl⟩ rfl
def W_law35_Deed (x:S_law35_Deed):Prop:=(IntKind.min .i64 ≤ x.f_Kind ∧ x.f_Kind ≤ IntKind.max .i64) ∧ (IntKind.min .i64 ≤ x.f_N ∧ x.f_N ≤ IntKind.max .i64) ∧ (IntKind.min .i64 ≤ x.f_M ∧ x.f_M ≤ IntKind.max .i64) ∧ (W_api_Call x.f_Call)
theorem opens_law35_Deed:Opens Tryz.prog 75 W_law35_Deed (fun x=>[.val (.int .i64 x.f_Kind),.val (.int .i64 x.f_N),.val (.int .i64 x.f_M),.val (.int .i64 x.f_Call.f_Kind),.str x.f_Call.f_Name,.val (.int .i64 x.f_Call.f_Id),.str x.f_Call.f_Spec.f_Name,.str x.f_Call.f_Spec.f_Project,.str x.f_Call.f_Spec.f_Service,.val (.int .i64 x.f_Call.f_Spec.f_Number),.str x.f_Call.f_Spec.f_Hash,.recs (α:=List UInt8) [] E_string x.f_Call.f_Spec.f_Nets,.recs (α:=List UInt8) [] E_string x.f_Call.f_Spec.f_Vols,.str x.f_Call.f_Spec.f_Health.f_Test,.val (.int .i64 x.f_Call.f_Spec.f_Health.f_Every),.val (.int .i64 x.f_Call.f_Spec.f_Health.f_Start),.val (.int .i64 x.f_Call.f_Spec.f_Health.f_Retries),.val (.int .i64 x.f_Call.f_Spec.f_Restart),.val (.int .i64 x.f_Call.f_Spec.f_Tries)]):=by
 intro H enc W fuel cs d ps h
 obtain ⟨hl,hf⟩:=field_of Tryz.underlying75 h
 have hl:cs.length = 19:=hl.trans (by kernel_rfl)
 obtain ⟨x0,w0,r0⟩:=hf 0 _ rfl opens_i64
 have r0:=repAt (a':=0) (b':=1) r0 (by kernel_rfl) (by kernel_rfl)
 obtain ⟨x1,w1,r1⟩:=hf 1 _ rfl opens_i64
 have r1:=repAt (a':=1) (b':=1) r1 (by kernel_rfl) (by kernel_rfl)
 obtain ⟨x2,w2,r2⟩:=hf 2 _ rfl opens_i64
 have r2:=repAt (a':=2) (b':=1) r2 (by kernel_rfl) (by kernel_rfl)
 obtain ⟨x3,w3,r3⟩:=hf 3 _ rfl opens_api_Call
 have r3:=repAt (a':=3) (b':=16) r3 (by kernel_rfl) (by kernel_rfl)
 refine ⟨⟨x0,x1,x2,x3⟩,⟨w0,w1,w2,w3⟩,?_⟩
 refine parts_all (l:=[([.val (.int .i64 x0)],1),([.val (.int .i64 x1)],1),([.val (.int .i64 x2)],1),([.val (.int .i64 x3.f_Kind),.str x3.f_Name,.val (.int .i64 x3.f_Id),.str x3.f_Spec.f_Name,.str x3.f_Spec.f_Project,.str x3.f_Spec.f_Service,.val (.int .i64 x3.f_Spec.f_Number),.str x3.f_Spec.f_Hash,.recs (α:=List UInt8) [] E_string x3.f_Spec.f_Nets,.recs (α:=List UInt8) [] E_string x3.f_Spec.f_Vols,.str x3.f_Spec.f_Health.f_Test,.val (.int .i64 x3.f_Spec.f_Health.f_Every),.val (.int .i64 x3.f_Spec.f_Health.f_Start),.val (.int .i64 x3.f_Spec.f_Health.f_Retries),.val (.int .i64 x3.f_Spec.f_Restart),.val (.int .i64 x3.f_Spec.f_Tries)],16)]) ⟨r0,r1,r2,r3,Nat.le_of_eq hl⟩ rfl
end Go.Proofs.YtaecmkldkljioaaGreat.M
