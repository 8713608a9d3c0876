import Derived.Test.YtaecmkldkljioaaGreatQM35e
set_option linter.all false
namespace Go.Proofs.YtaecmkldkljioaaGreat.M
open Go.RowKit Go.Proofs.YtaecmkldkljioaaGreat.RX
set_option maxRecDepth 100000
abbrev ex34 (x0:S_probe_State):=(IntKind.wrap .i64 (x0.f_Fails + 1))
theorem ok_probe_Ask_j1 (v3:Bool) (v10:Int) (b4:S_api_Check) (b5:S_probe_State) (b8:S_probe_State) (o:S_probe_State) (h:probe_Ask_j1 v3 v10 b4 b5 b8 = o) {F0:Fz} {w0:Pt Tryz.prog} {Q:Exit → Act → World → Prop} (hQ:To 62 F0 w0 [(5,.own 5 0),(8,.own 8 0)] [(5,51,qc12 o),(8,51,qc12 b8)] .normal Q):Wp Tryz.prog 62 F0 w0 [(3,vb v3),(4,.own 4 0),(5,.own 5 0),(8,.own 8 0),(10,vi v10)] [(4,36,qc11 b4),(5,51,qc12 b5),(8,51,qc12 b8)] (cA (cB (cB (cB (cB (cF Tryz.f103)))))) Q:=by
 unfold probe_Ask_j1 at h
 refine Wp.block (Wp.seq (rg [4,5,8,10,43] [4,5,8] [(4,.own 4 0),(5,.own 5 0),(8,.own 8 0),(10,vi v10),(43,vb (!v3))] [(4,36,qc11 b4),(5,51,qc12 b5),(8,51,qc12 b8)] (To.thenN (cn h (fun h=>?_) (fun h=>?_)))))
 ·refine rg [5,8] [5,8] [(5,.own 5 0),(8,.own 8 0)] [(5,51,[vi 2,vi 0,vi b5.f_Began,vi b5.f_Next]),(8,51,qc12 b8)] (To.blockN ?_)
  cases h
  exact hQ
 ·refine Wp.seq (rg [4,5,8,48] [4,5,8] [(4,.own 4 0),(5,.own 5 0),(8,.own 8 0),(48,vb (bif (b5.f_Health == 1) then (decide ((IntKind.wrap .i64 (v10 - b5.f_Began)) < b4.f_Start)) else false))] [(4,36,qc11 b4),(5,51,qc12 b5),(8,51,qc12 b8)] (To.thenN (cn h (fun h=>?_) (fun h=>?_))))
  ·refine Wp.skip (To.blockN (kt [5,8] [5,8] [(5,.own 5 0),(8,.own 8 0)] [(5,51,qc12 b5),(8,51,qc12 b8)] ?_))
   cases h
   exact hQ
  ·refine Wp.seq (rg [4,5,8] [4,5,8] [(4,.own 4 0),(5,.own 5 0),(8,.own 8 0)] [(4,36,qc11 b4),(5,51,[vi b5.f_Health,vi (ex34 b5),vi b5.f_Began,vi b5.f_Next]),(8,51,qc12 b8)] (To.thenN (Wp.seq (rg [4,5,8,38] [4,5,8] [(4,.own 4 0),(5,.own 5 0),(8,.own 8 0),(38,vb (decide ((ex34 b5) ≥ b4.f_Retries)))] [(4,36,qc11 b4),(5,51,[vi b5.f_Health,vi (ex34 b5),vi b5.f_Began,vi b5.f_Next]),(8,51,qc12 b8)] (To.thenN (cn h (fun h=>?_) (fun h=>?_)))))))
   ·refine Wp.regionD hm hΓ [] [5,8] [5,8] (K':=[(5,.own 5 0),(8,.own 8 0)]) (L':=[(5,51,[vi 3,vi b4.f_Retries,vi b5.f_Began,vi b5.f_Next]),(8,51,qc12 b8)]) (ob:=[]) (by kernel_rfl) AllP.nil (To.blockN (kt [5,8] [5,8] [(5,.own 5 0),(8,.own 8 0)] [(5,51,[vi 3,vi b4.f_Retries,vi b5.f_Began,vi b5.f_Next]),(8,51,qc12 b8)] ?_))
    cases h
    exact hQ
   ·refine Wp.skip (To.blockN (kt [5,8] [5,8] [(5,.own 5 0),(8,.own 8 0)] [(5,51,[vi b5.f_Health,vi (ex34 b5),vi b5.f_Began,vi b5.f_Next]),(8,51,qc12 b8)] ?_))
    cases h
    exact hQ
def probe_Ask (a0:S_api_Check) (a1:S_probe_State) (a2:Int) (a3:Bool):S_probe_State × Bool :=
 if (bif (!(probe_asked a0 a1)) then true else (decide (a2 < a1.f_Next))) = true then ((a1,false))
 else (lett (probe_Ask_j1 a3 a1.f_Next a0 (S_probe_State.mk a1.f_Health a1.f_Fails a1.f_Began (IntKind.wrap .i64 (a1.f_Next + a0.f_Every))) (S_probe_State.mk 0 0 0 0)) fun o1 =>
 (o1,true))
abbrev ex35 (x0:S_probe_State) (x1:S_api_Check):=(IntKind.wrap .i64 (x0.f_Next + x1.f_Every))
theorem ok_probe_Ask (a0:S_api_Check) (a1:S_probe_State) (a2:Int) (a3:Bool) (r:S_probe_State × Bool) (h:probe_Ask a0 a1 a2 a3 = r):CallsX Tryz.prog 103 [.agg (qc11 a0),.agg (qc12 a1),vi a2,vb a3] (.tup [.agg (qc12 r.1),vb r.2]):=by
 unfold probe_Ask at h
 refine xo Tryz.f103 rfl fun F0 w0 _=>?_
 refine Wp.seq (rg [2,3,4,5,8] [4,5,8] [(2,vi a2),(3,vb a3),(4,.own 4 0),(5,.own 5 0),(8,.own 8 0)] [(4,36,qc11 a0),(5,51,qc12 a1),(8,51,[vi 0,vi 0,vi 0,vi 0])] (To.thenN (Wp.seq (Wp.seq (rc [] 2 [3,4,5,8,20] [4,5,8] [(3,vb a3),(4,.own 4 0),(5,.own 5 0),(8,.own 8 0),(20,vb (bif (!(probe_asked a0 a1)) then true else (decide (a2 < a1.f_Next))))] [(4,36,qc11 a0),(5,51,qc12 a1),(8,51,[vi 0,vi 0,vi 0,vi 0])] (ok_probe_asked a0 a1 _ rfl) (To.thenN (cn h (fun h=>?_) (fun h=>?_))))))))
 ·refine Wp.seq (rg [8,9] [8] [(8,.own 8 0),(9,vb false)] [(8,51,qc12 a1)] (To.thenN (Wp.ret (To.thenR ?_))))
  cases h
  exact To.done hΓ (by kernel_rfl)
 ·refine Wp.skip (To.thenN (Wp.seq (rg [3,4,5,8,10] [4,5,8] [(3,vb a3),(4,.own 4 0),(5,.own 5 0),(8,.own 8 0),(10,vi a1.f_Next)] [(4,36,qc11 a0),(5,51,qc12 a1),(8,51,[vi 0,vi 0,vi 0,vi 0])] (To.thenN (Wp.seq (rg [3,4,5,8,10] [4,5,8] [(3,vb a3),(4,.own 4 0),(5,.own 5 0),(8,.own 8 0),(10,vi a1.f_Next)] [(4,36,qc11 a0),(5,51,[vi a1.f_Health,vi a1.f_Fails,vi a1.f_Began,vi (ex35 a1 a0)]),(8,51,[vi 0,vi 0,vi 0,vi 0])] (To.thenN (Wp.seq ?_))))))))
  obtain ⟨o1,ho1,h⟩:=lett_of h
  refine kw [3,4,5,8,10] [4,5,8] [(3,vb a3),(4,.own 4 0),(5,.own 5 0),(8,.own 8 0),(10,vi a1.f_Next)] [(4,36,qc11 a0),(5,51,[vi a1.f_Health,vi a1.f_Fails,vi a1.f_Began,vi (ex35 a1 a0)]),(8,51,[vi 0,vi 0,vi 0,vi 0])] (ok_probe_Ask_j1 a3 a1.f_Next a0 (S_probe_State.mk a1.f_Health a1.f_Fails a1.f_Began (ex35 a1 a0)) zx14 o1 ho1 (To.thenN (Wp.seq (rg [8,9] [8] [(8,.own 8 0),(9,vb true)] [(8,51,qc12 o1)] (To.thenN (Wp.ret ?_))))))
  cases h
  exact To.done hΓ (by kernel_rfl)
def life_Tick (a0:S_life_Box) (a1:Int):S_life_Box × Int :=
 if (bif ((life_Next a0) == (-1)) then true else (decide ((life_Next a0) > a1))) = true then ((a0,0))
 else (if (a0.f_State == 2) = true then (lett (probe_Ask a0.f_Spec.f_Health a0.f_Probe (life_Next a0) a0.f_Sick) fun r1 =>
 ((S_life_Box.mk a0.f_Spec a0.f_Id a0.f_State a0.f_Code a0.f_Runs a0.f_Done a0.f_At a0.f_ByHand a0.f_Sick r1.1),1))
 else (lett (life_run (S_life_Box.mk a0.f_Spec a0.f_Id a0.f_State a0.f_Code a0.f_Runs (IntKind.wrap .i64 (a0.f_Done + 1)) a0.f_At a0.f_ByHand a0.f_Sick a0.f_Probe) (life_Next a0)) fun r2 =>
 (r2,2)))
theorem ok_life_Tick (a0:S_life_Box) (a1:Int) (r:S_life_Box × Int) (h:life_Tick a0 a1 = r):CallsX Tryz.prog 73 [.agg (qc8 a0),vi a1] (.tup [.agg (qc8 r.1),vi r.2]):=by
 unfold life_Tick at h
 refine xo Tryz.f73 rfl fun F0 w0 _=>?_
 refine Wp.seq (rg [1,2,4] [2,4] [(1,vi a1),(2,.own 2 0),(4,.own 4 0)] [(2,53,(E_life_Box a0)),(4,53,[.str [],.str [],.str [],vi 0,.str [],.val (.slice none 0 0),.val (.slice none 0 0),.str [],vi 0,vi 0,vi 0,vi 0,vi 0,vi 0,vi 0,vi 0,vi 0,vi 0,vi 0,vb false,vb false,vi 0,vi 0,vi 0,vi 0])] (To.thenN (Wp.seq (rc [] 1 [1,2,4,6] [2,4] [(1,vi a1),(2,.own 2 0),(4,.own 4 0),(6,vi (life_Next a0))] [(2,53,(E_life_Box a0)),(4,53,[.str [],.str [],.str [],vi 0,.str [],.val (.slice none 0 0),.val (.slice none 0 0),.str [],vi 0,vi 0,vi 0,vi 0,vi 0,vi 0,vi 0,vi 0,vi 0,vi 0,vi 0,vb false,vb false,vi 0,vi 0,vi 0,vi 0])] (ok_life_Next a0 _ rfl) (To.thenN (Wp.seq (Wp.seq (rg [2,4,6,15] [2,4] [(2,.own 2 0),(4,.own 4 0),(6,vi (life_Next a0)),(15,vb (bif ((life_Next a0) == (-1)) then true else (decide ((life_Next a0) > a1))))] [(2,53,(E_life_Box a0)),(4,53,[.str [],.str [],.str [],vi 0,.str [],.val (.slice none 0 0),.val (.slice none 0 0),.str [],vi 0,vi 0,vi 0,vi 0,vi 0,vi 0,vi 0,vi 0,vi 0,vi 0,vi 0,vb false,vb false,vi 0,vi 0,vi 0,vi 0])] (To.thenN (cn h (fun h=>?_) (fun h=>?_)))))))))))
 ·refine Wp.seq (rg [4,5] [4] [(4,.own 4 0),(5,vi 0)] [(4,53,(E_life_Box a0))] (To.thenN (Wp.ret (To.thenR ?_))))
  cases h
  exact To.done hΓ (by kernel_rfl)
 ·refine Wp.skip (To.thenN (Wp.seq (Wp.seq (rg [2,4,6,19] [2,4] [(2,.own 2 0),(4,.own 4 0),(6,vi (life_Next a0)),(19,vb (a0.f_State == 2))] [(2,53,(E_life_Box a0)),(4,53,[.str [],.str [],.str [],vi 0,.str [],.val (.slice none 0 0),.val (.slice none 0 0),.str [],vi 0,vi 0,vi 0,vi 0,vi 0,vi 0,vi 0,vi 0,vi 0,vi 0,vi 0,vb false,vb false,vi 0,vi 0,vi 0,vi 0])] (To.thenN (cn h (fun h=>?_) (fun h=>?_)))))))
  ·refine Wp.seq ?_
   obtain ⟨r1,hr1,h⟩:=lett_of h
   refine rc [] 8 [2,4] [2,4] [(2,.own 2 0),(4,.own 4 0)] [(2,53,(List.set (List.set (List.set (List.set (E_life_Box a0) 21 (vi r1.1.f_Health)) 22 (vi r1.1.f_Fails)) 23 (vi r1.1.f_Began)) 24 (vi r1.1.f_Next))),(4,53,[.str [],.str [],.str [],vi 0,.str [],.val (.slice none 0 0),.val (.slice none 0 0),.str [],vi 0,vi 0,vi 0,vi 0,vi 0,vi 0,vi 0,vi 0,vi 0,vi 0,vi 0,vb false,vb false,vi 0,vi 0,vi 0,vi 0])] (ok_probe_Ask a0.f_Spec.f_Health a0.f_Probe (life_Next a0) a0.f_Sick _ hr1) (To.thenN (Wp.seq (rg [4,5] [4] [(4,.own 4 0),(5,vi 1)] [(4,53,(List.set (List.set (List.set (List.set (E_life_Box a0) 21 (vi r1.1.f_Health)) 22 (vi r1.1.f_Fails)) 23 (vi r1.1.f_Began)) 24 (vi r1.1.f_Next)))] (To.thenN (Wp.ret (To.thenR ?_))))))
   cases h
   exact To.done hΓ (by kernel_rfl)
  ·refine Wp.skip (To.thenN (Wp.seq (rg [2,4,6] [2,4] [(2,.own 2 0),(4,.own 4 0),(6,vi (life_Next a0))] [(2,53,(List.set (E_life_Box a0) 17 (vi (IntKind.wrap .i64 (a0.f_Done + 1))))),(4,53,[.str [],.str [],.str [],vi 0,.str [],.val (.slice none 0 0),.val (.slice none 0 0),.str [],vi 0,vi 0,vi 0,vi 0,vi 0,vi 0,vi 0,vi 0,vi 0,vi 0,vi 0,vb false,vb false,vi 0,vi 0,vi 0,vi 0])] (To.thenN (Wp.seq ?_)))))
   obtain ⟨r2,hr2,h⟩:=lett_of h
   refine rc [] 2 [4,5] [4] [(4,.own 4 0),(5,vi 2)] [(4,53,(E_life_Box r2))] (ok_life_run (S_life_Box.mk a0.f_Spec a0.f_Id a0.f_State a0.f_Code a0.f_Runs (IntKind.wrap .i64 (a0.f_Done + 1)) a0.f_At a0.f_ByHand a0.f_Sick a0.f_Probe) (life_Next a0) _ hr2) (To.thenN (Wp.ret ?_))
   cases h
   exact To.done hΓ (by kernel_rfl)
def host_Host_Tick__o0_j2 (n:Nat) (v5:Int) (v6:List (S_host_Event)) (v9:Int) (v10:Int) (v12:Int) (v50:Bool) (b7:S_life_Box) (b11:S_life_Box) (b1000000:S_host_Host):Option ((List (S_host_Event))) :=
 if v50 = true then (if (decide ((List.length v6 + List.length ([(S_host_Event.mk v9 2 b7.f_Id 0)]:List (S_host_Event))) * (32 + 1) ≤ limit)) = true then (some (v6 ++ ([(S_host_Event.mk v9 2 b7.f_Id 0)]:List (S_host_Event)))) else none)
 else some v6
abbrev zx41:S_host_Event:=S_host_Event.mk 0 0 0 0
abbrev rc42 (l:List (S_host_Event)):D:=.rowc false (α:=S_host_Event) zx41 E_host_Event l
abbrev rs43 (l:List (S_host_Event)):D:=.recs (α:=S_host_Event) zx41 E_host_Event l
abbrev ex36 (x0:Int) (x1:S_life_Box):=([(S_host_Event.mk x0 2 x1.f_Id 0)]:List (S_host_Event))
abbrev ex37 (x0:S_life_Box) (x1:S_life_Box) (x2:List (S_host_Event)) (x3:S_host_Host):=((7,53,(E_life_Box x0))::(11,53,(E_life_Box x1))::(1006,137,[rc42 x2])::qh39 1000000 1010060 1010061 1010062 1010063 x3)
theorem ok_host_Host_Tick__o0_j2 (n:Nat) (v5:Int) (v6:List (S_host_Event)) (v9:Int) (v10:Int) (v12:Int) (v50:Bool) (b7:S_life_Box) (b11:S_life_Box) (b1000000:S_host_Host) (o:(List (S_host_Event))) (h:host_Host_Tick__o0_j2 n v5 v6 v9 v10 v12 v50 b7 b11 b1000000 = some o) {F0:Fz} {w0:Pt Tryz.prog} {Q:Exit → Act → World → Prop} (hQ:To 81 F0 w0 [(0,.own 1000000 0),(5,vi v5),(6,.row 1006),(7,.own 7 0),(9,vi v9),(10,vi v10),(11,.own 11 0),(12,vi v12)] ((7,53,(E_life_Box b7))::(11,53,(E_life_Box b11))::(1006,137,[rc42 o])::qh39 1000000 1010060 1010061 1010062 1010063 b1000000) .normal Q):Wp Tryz.prog 81 F0 w0 [(0,.own 1000000 0),(5,vi v5),(6,.row 1006),(7,.own 7 0),(9,vi v9),(10,vi v10),(11,.own 11 0),(12,vi v12),(50,vb v50)] (ex37 b7 b11 v6 b1000000) (cB (cA (cB (cB (cB (cB (cB (cI (cI (cI (cA (cB (cB (cB (cB (cF Tryz.f38)))))))))))))))) Q:=by
 unfold host_Host_Tick__o0_j2 at h
 refine cn h (fun h=>?_) (fun h=>?_)
 ·obtain ⟨hc6,h⟩:=chk_of h
  refine rr [] [(5,rs43 [(S_host_Event.mk v9 2 b7.f_Id 0)]),(6,rs43 (v6 ++ (ex36 v9 b7)))] [] [0,5,6,7,9,10,11,12] [7,11,57,1000000,1010060,1010061,1010062,1010063] [(0,.own 1000000 0),(5,vi v5),(6,.row 57),(7,.own 7 0),(9,vi v9),(10,vi v10),(11,.own 11 0),(12,vi v12)] ((7,53,(E_life_Box b7))::(11,53,(E_life_Box b11))::(57,137,[rc42 (v6 ++ (ex36 v9 b7))])::qh39 1000000 1010060 1010061 1010062 1010063 b1000000) [(MkOb 4 [vi v9,vi 2,vi b7.f_Id,vi 0] 1 (rs43 [(S_host_Event.mk v9 2 b7.f_Id 0)]) ∧ GoodR (rs43 [(S_host_Event.mk v9 2 b7.f_Id 0)])),_,(AppOb zx41 E_host_Event v6 (List.flatMap E_host_Event (ex36 v9 b7)) (List.length (ex36 v9 b7)) (rs43 (v6 ++ (ex36 v9 b7))) ∧ GoodR (rs43 (v6 ++ (ex36 v9 b7))))] (AllP.cons (mkOb (by kernel_rfl) rfl (by kernel_rfl) (good_E_host_Event _)) (AllP.cons hc6 (AllP.cons (appOb rfl rfl (good_E_host_Event _)) AllP.nil))) (nt [0,5,6,7,9,10,11,12] [7,11,57,1000000,1010060,1010061,1010062,1010063] [(57,1006)] [0,5,6,7,9,10,11,12] [7,11,1006,1000000,1010060,1010061,1010062,1010063] [(0,.own 1000000 0),(5,vi v5),(6,.row 1006),(7,.own 7 0),(9,vi v9),(10,vi v10),(11,.own 11 0),(12,vi v12)] ((7,53,(E_life_Box b7))::(11,53,(E_life_Box b11))::(1006,137,[rc42 (v6 ++ (ex36 v9 b7))])::qh39 1000000 1010060 1010061 1010062 1010063 b1000000) ?_)
  cases h
  exact hQ
 ·refine Wp.skip (kt [0,5,6,7,9,10,11,12] [7,11,1006,1000000,1010060,1010061,1010062,1010063] [(0,.own 1000000 0),(5,vi v5),(6,.row 1006),(7,.own 7 0),(9,vi v9),(10,vi v10),(11,.own 11 0),(12,vi v12)] (ex37 b7 b11 v6 b1000000) ?_)
  cases h
  exact hQ
def host_Host_Tick__o0_l1 (n:Nat) (v5:Int):Nat → (List (S_host_Event)) → S_host_Host → Option ((List (S_host_Event)) × S_host_Host)
 | 0,_,_=>none
 | k + 1,v6,b1000000=>(host_Host_next__o0 n v5 b1000000).bind fun r2 =>
 if (!r2.2.1) = true then (some (v6,r2.2.2))
 else (lett (life_Seen r2.1) fun r3 =>
 lett (life_Tick r2.1 v5) fun r4 =>
 (store_Store_Put__o0 n r4.1 r2.2.2.f_Store).bind fun r5 =>
 (host_Host_Tick__o0_j2 n v5 v6 (life_Next r2.1) r3.f_Health r4.2 (r4.2 == 2) r2.1 r4.1 (S_host_Host.mk r5.2 r2.2.2.f_plan r2.2.2.f_now)).bind fun o6 =>
 lett (life_Seen r4.1) fun r7 =>
 if (bif (r4.2 == 1) then (r7.f_Health != r3.f_Health) else false) = true then (if (decide ((List.length o6 + List.length ([(S_host_Event.mk (life_Next r2.1) 3 r2.1.f_Id r7.f_Health)]:List (S_host_Event))) * (32 + 1) ≤ limit)) = true then (host_Host_Tick__o0_l1 n v5 k (o6 ++ ([(S_host_Event.mk (life_Next r2.1) 3 r2.1.f_Id r7.f_Health)]:List (S_host_Event))) (S_host_Host.mk r5.2 r2.2.2.f_plan r2.2.2.f_now)) else none)
 else (host_Host_Tick__o0_l1 n v5 k o6 (S_host_Host.mk r5.2 r2.2.2.f_plan r2.2.2.f_now)))
abbrev ex38 (x0:S_host_Host):=(qh39 1000000 1010060 1010061 1010062 1010063 x0)
abbrev ex39 (x0:S_host_Host):=(ph40 1010060 1010061 1010062 1010063 x0)
theorem ok_host_Host_Tick__o0_l1 (n:Nat) (v5:Int) {F0:Fz} {w0:Pt Tryz.prog} {Q:Exit → Act → World → Prop} (k:Nat):∀ (v6:List (S_host_Event)) (b1000000:S_host_Host) (o:(List (S_host_Event)) × S_host_Host),host_Host_Tick__o0_l1 n v5 k v6 b1000000 = some o → To 81 F0 w0 [(0,.own 1000000 0),(5,vi v5),(6,.row 1006)] ((1006,137,[rc42 o.1])::qh39 1000000 1010060 1010061 1010062 1010063 o.2) (.exit 0) Q → WL Tryz.prog 81 F0 w0 [(0,.own 1000000 0),(5,vi v5),(6,.row 1006)] ((1006,137,[rc42 v6])::qh39 1000000 1010060 1010061 1010062 1010063 b1000000) (cI (cI (cA (cB (cB (cB (cB (cF Tryz.f38)))))))) Q:=by
 induction k with
 | zero=>intro v6 b1000000 o h; cases h
 | succ k ih =>
  intro v6 b1000000 o h hQ
  rw [host_Host_Tick__o0_l1] at h
  refine WL.round (Wp.block (Wp.seq ?_))
  obtain ⟨r2,hr2,h⟩:=bind_of h
  refine rb [] 2 ⟨[(1000000,1000000),(1010060,1010060),(1010061,1010061),(1010062,1010062),(1010063,1010063)],[(1000000,1000000),(1010060,1010060),(1010061,1010061),(1010062,1010062),(1010063,1010063)],[.own 1000000 0,vi v5],(ex38 b1000000),.tup [.agg (qc8 r2.1),vb r2.2.1],(qh39 1000000 1010060 1010061 1010062 1010063 r2.2.2)⟩ [0,5,6,7,8] [7,1006,1000000,1010060,1010061,1010062,1010063] [(0,.own 1000000 0),(5,vi v5),(6,.row 1006),(7,.own 7 0),(8,vb r2.2.1)] ((7,53,(E_life_Box r2.1))::(1006,137,[rc42 v6])::qh39 1000000 1010060 1010061 1010062 1010063 r2.2.2) ((ok_host_Host_next__o0 n v5 b1000000 _ hr2)) (To.thenN (Wp.seq (Wp.seq (rg [0,5,6,7,31] [7,1006,1000000,1010060,1010061,1010062,1010063] [(0,.own 1000000 0),(5,vi v5),(6,.row 1006),(7,.own 7 0),(31,vb (!r2.2.1))] ((7,53,(E_life_Box r2.1))::(1006,137,[rc42 v6])::qh39 1000000 1010060 1010061 1010062 1010063 r2.2.2) (To.thenN (cn h (fun h=>?_) (fun h=>?_)))))))
  ·refine Wp.exit (To.thenX (To.blockO (by decide) (To.thenX (kt [0,5,6] [1006,1000000,1010060,1010061,1010062,1010063] [(0,.own 1000000 0),(5,vi v5),(6,.row 1006)] ((1006,137,[rc42 v6])::qh39 1000000 1010060 1010061 1010062 1010063 r2.2.2) ?_))))
   cases h
   exact hQ
  ·refine Wp.skip (To.thenN (Wp.seq ?_))
   obtain ⟨r3,hr3,h⟩:=lett_of h
   refine Wp.regionO hm hΓ [] [(1,vi (life_Next r2.1)),(3,.agg (qc26 r3))] [] [0,5,6,7,9,10,31,32,33,34,35,36] [7,1006,1000000,1010060,1010061,1010062,1010063] [0,5,6,7,9,10] [7,1006,1000000,1010060,1010061,1010062,1010063] (K':=[(0,.own 1000000 0),(5,vi v5),(6,.row 1006),(7,.own 7 0),(9,vi (life_Next r2.1)),(10,vi r3.f_Health)]) (L':=((7,53,(E_life_Box r2.1))::(1006,137,[rc42 v6])::qh39 1000000 1010060 1010061 1010062 1010063 r2.2.2)) (ob:=[(true = true → CX Tryz.prog 72 [.agg (qc8 r2.1)] (vi (life_Next r2.1))),(true = true → CX Tryz.prog 63 [.agg (qc8 r2.1)] (.agg (qc26 r3)))]) (by kernel_rfl) (by kernel_rfl) (AllP.cons (fun _=>cx (ok_life_Next r2.1 _ rfl)) (AllP.cons (fun _=>cx (ok_life_Seen r2.1 _ hr3)) AllP.nil)) (To.thenN (Wp.seq ?_))
   obtain ⟨r4,hr4,h⟩:=lett_of h
   refine rc [] 2 [0,5,6,7,9,10,11,12] [7,11,1006,1000000,1010060,1010061,1010062,1010063] [(0,.own 1000000 0),(5,vi v5),(6,.row 1006),(7,.own 7 0),(9,vi (life_Next r2.1)),(10,vi r3.f_Health),(11,.own 11 0),(12,vi r4.2)] ((7,53,(E_life_Box r2.1))::(11,53,(E_life_Box r4.1))::(1006,137,[rc42 v6])::qh39 1000000 1010060 1010061 1010062 1010063 r2.2.2) (ok_life_Tick r2.1 v5 _ hr4) (To.thenN (Wp.seq ?_))
   obtain ⟨r5,hr5,h⟩:=bind_of h
   refine Wp.regionO hm hΓ [] [] [(5,⟨[(1000000,1010060),(1010060,1010061),(1010061,1010062),(1010062,1010063)],[(1000000,1010060),(1010060,1010061),(1010061,1010062),(1010062,1010063)],[.own 1000000 0,.agg (qc8 r4.1)],(qf5 1000000 1010060 1010061 1010062 r2.2.2.f_Store),vb r5.1,(qf5 1000000 1010060 1010061 1010062 r5.2)⟩)] [0,5,6,7,9,10,11,12,43,44,45,46,47,48] [7,11,1006,1000000,1010060,1010061,1010062,1010063] [0,5,6,7,9,10,11,12] [7,11,1006,1000000,1010060,1010061,1010062,1010063] (K':=[(0,.own 1000000 0),(5,vi v5),(6,.row 1006),(7,.own 7 0),(9,vi (life_Next r2.1)),(10,vi r3.f_Health),(11,.own 11 0),(12,vi r4.2)]) (L':=((7,53,(E_life_Box r2.1))::(11,53,(E_life_Box r4.1))::(1006,137,[rc42 v6])::(1000000,139,[.own 1010060 0,rs33 r2.2.2.f_plan.f_l,vi r2.2.2.f_plan.f_more,vi r2.2.2.f_now])::qf5 1010060 1010061 1010062 1010063 r5.2)) (ob:=[CbOb (CallsB Tryz.prog) 23 [.own 1010060 0,.agg (qc8 r4.1)] (ps15 1010061 1010062 1010063 r2.2.2.f_Store) ⟨[(1000000,1010060),(1010060,1010061),(1010061,1010062),(1010062,1010063)],[(1000000,1010060),(1010060,1010061),(1010061,1010062),(1010062,1010063)],[.own 1000000 0,.agg (qc8 r4.1)],(qf5 1000000 1010060 1010061 1010062 r2.2.2.f_Store),vb r5.1,(qf5 1000000 1010060 1010061 1010062 r5.2)⟩]) (by kernel_rfl) (by kernel_rfl) (AllP.cons (⟨(ok_store_Store_Put__o0 n r4.1 r2.2.2.f_Store _ hr5),by kernel_rfl,by kernel_rfl⟩) AllP.nil) ?_
   refine To.thenN (Wp.seq (Wp.seq (rg [0,5,6,7,9,10,11,12,50] [7,11,1006,1000000,1010060,1010061,1010062,1010063] [(0,.own 1000000 0),(5,vi v5),(6,.row 1006),(7,.own 7 0),(9,vi (life_Next r2.1)),(10,vi r3.f_Health),(11,.own 11 0),(12,vi r4.2),(50,vb (r4.2 == 2))] ((7,53,(E_life_Box r2.1))::(11,53,(E_life_Box r4.1))::(1006,137,[rc42 v6])::(1000000,139,[.own 1010060 0,rs33 r2.2.2.f_plan.f_l,vi r2.2.2.f_plan.f_more,vi r2.2.2.f_now])::qf5 1010060 1010061 1010062 1010063 r5.2) (To.thenN ?_))))
   obtain ⟨o6,ho6,h⟩:=bind_of h
   refine kw [0,5,6,7,9,10,11,12,50] [7,11,1006,1000000,1010060,1010061,1010062,1010063] [(0,.own 1000000 0),(5,vi v5),(6,.row 1006),(7,.own 7 0),(9,vi (life_Next r2.1)),(10,vi r3.f_Health),(11,.own 11 0),(12,vi r4.2),(50,vb (r4.2 == 2))] ((7,53,(E_life_Box r2.1))::(11,53,(E_life_Box r4.1))::(1006,137,[rc42 v6])::(1000000,139,[.own 1010060 0,rs33 r2.2.2.f_plan.f_l,vi r2.2.2.f_plan.f_more,vi r2.2.2.f_now])::qf5 1010060 1010061 1010062 1010063 r5.2) (ok_host_Host_Tick__o0_j2 n v5 v6 (life_Next r2.1) r3.f_Health r4.2 (r4.2 == 2) r2.1 r4.1 (S_host_Host.mk r5.2 r2.2.2.f_plan r2.2.2.f_now) o6 ho6 (To.thenN (Wp.seq ?_)))
   obtain ⟨r7,hr7,h⟩:=lett_of h
   refine rc [] 1 [0,5,6,7,9,10,12,13] [7,1006,1000000,1010060,1010061,1010062,1010063] [(0,.own 1000000 0),(5,vi v5),(6,.row 1006),(7,.own 7 0),(9,vi (life_Next r2.1)),(10,vi r3.f_Health),(12,vi r4.2),(13,vi r7.f_Health)] ((7,53,(E_life_Box r2.1))::(1006,137,[rc42 o6])::(1000000,139,[.own 1010060 0,rs33 r2.2.2.f_plan.f_l,vi r2.2.2.f_plan.f_more,vi r2.2.2.f_now])::qf5 1010060 1010061 1010062 1010063 r5.2) (ok_life_Seen r4.1 _ hr7) (To.thenN (Wp.seq (rg [0,5,6,7,9,13,67] [7,1006,1000000,1010060,1010061,1010062,1010063] [(0,.own 1000000 0),(5,vi v5),(6,.row 1006),(7,.own 7 0),(9,vi (life_Next r2.1)),(13,vi r7.f_Health),(67,vb (bif (r4.2 == 1) then (r7.f_Health != r3.f_Health) else false))] ((7,53,(E_life_Box r2.1))::(1006,137,[rc42 o6])::(1000000,139,[.own 1010060 0,rs33 r2.2.2.f_plan.f_l,vi r2.2.2.f_plan.f_more,vi r2.2.2.f_now])::qf5 1010060 1010061 1010062 1010063 r5.2) (To.thenN (cn h (fun h=>?_) (fun h=>?_))))))
   ·obtain ⟨hc8,h⟩:=chk_of h
    refine rr [] [(6,rs43 [(S_host_Event.mk (life_Next r2.1) 3 r2.1.f_Id r7.f_Health)]),(7,rs43 (o6 ++ ([(S_host_Event.mk (life_Next r2.1) 3 r2.1.f_Id r7.f_Health)]:List (S_host_Event))))] [] [0,5,6] [75,1000000,1010060,1010061,1010062,1010063] [(0,.own 1000000 0),(5,vi v5),(6,.row 75)] ((75,137,[rc42 (o6 ++ ([(S_host_Event.mk (life_Next r2.1) 3 r2.1.f_Id r7.f_Health)]:List (S_host_Event)))])::(1000000,139,[.own 1010060 0,rs33 r2.2.2.f_plan.f_l,vi r2.2.2.f_plan.f_more,vi r2.2.2.f_now])::qf5 1010060 1010061 1010062 1010063 r5.2) [(MkOb 4 [vi (life_Next r2.1),vi 3,vi r2.1.f_Id,vi r7.f_Health] 1 (rs43 [(S_host_Event.mk (life_Next r2.1) 3 r2.1.f_Id r7.f_Health)]) ∧ GoodR (rs43 [(S_host_Event.mk (life_Next r2.1) 3 r2.1.f_Id r7.f_Health)])),_,(AppOb zx41 E_host_Event o6 (List.flatMap E_host_Event ([(S_host_Event.mk (life_Next r2.1) 3 r2.1.f_Id r7.f_Health)]:List (S_host_Event))) (List.length ([(S_host_Event.mk (life_Next r2.1) 3 r2.1.f_Id r7.f_Health)]:List (S_host_Event))) (rs43 (o6 ++ ([(S_host_Event.mk (life_Next r2.1) 3 r2.1.f_Id r7.f_Health)]:List (S_host_Event)))) ∧ GoodR (rs43 (o6 ++ ([(S_host_Event.mk (life_Next r2.1) 3 r2.1.f_Id r7.f_Health)]:List (S_host_Event)))))] (AllP.cons (mkOb (by kernel_rfl) rfl (by kernel_rfl) (good_E_host_Event _)) (AllP.cons hc8 (AllP.cons (appOb rfl rfl (good_E_host_Event _)) AllP.nil))) (To.blockN (nt [0,5,6] [75,1000000,1010060,1010061,1010062,1010063] [(75,1006)] [0,5,6] [1006,1000000,1010060,1010061,1010062,1010063] [(0,.own 1000000 0),(5,vi v5),(6,.row 1006)] ((1006,137,[rc42 (o6 ++ ([(S_host_Event.mk (life_Next r2.1) 3 r2.1.f_Id r7.f_Health)]:List (S_host_Event)))])::(1000000,139,[.own 1010060 0,rs33 r2.2.2.f_plan.f_l,vi r2.2.2.f_plan.f_more,vi r2.2.2.f_now])::qf5 1010060 1010061 1010062 1010063 r5.2) (To.again ?_)))
    exact ih (o6 ++ ([(S_host_Event.mk (life_Next r2.1) 3 r2.1.f_Id r7.f_Health)]:List (S_host_Event))) (S_host_Host.mk r5.2 r2.2.2.f_plan r2.2.2.f_now) _ h hQ
   ·refine Wp.skip (To.blockN (kt [0,5,6] [1006,1000000,1010060,1010061,1010062,1010063] [(0,.own 1000000 0),(5,vi v5),(6,.row 1006)] ((1006,137,[rc42 o6])::(1000000,139,[.own 1010060 0,rs33 r2.2.2.f_plan.f_l,vi r2.2.2.f_plan.f_more,vi r2.2.2.f_now])::qf5 1010060 1010061 1010062 1010063 r5.2) (To.again ?_)))
    exact ih o6 (S_host_Host.mk r5.2 r2.2.2.f_plan r2.2.2.f_now) _ h hQ
def host_Host_Tick__o0 (n:Nat) (a1:Int) (h0:S_host_Host):Option ((List (S_host_Event)) × S_host_Host) :=
 lett ((IntKind.wrap .i64 (h0.f_now + (if (10000:Int) < (if (0:Int) > a1 then 0 else a1) then 10000 else (if (0:Int) > a1 then 0 else a1)))):Int) fun x1 =>
 (host_Host_Tick__o0_l1 n x1 n ([]:List (S_host_Event)) h0).bind fun o2 =>
 some (o2.1,(S_host_Host.mk o2.2.f_Store o2.2.f_plan x1))
abbrev rc44 (l:List (S_host_Event)):D:=.rowc true (α:=S_host_Event) zx41 E_host_Event l
theorem ok_host_Host_Tick__o0 (n:Nat) (a1:Int) (h0:S_host_Host) (r:(List (S_host_Event)) × S_host_Host) (h:host_Host_Tick__o0 n a1 h0 = some r):CallsB Tryz.prog 38 [.own 1000000 0,vi a1] (qh39 1000000 1010060 1010061 1010062 1010063 h0) (rs43 r.1) (qh39 1000000 1010060 1010061 1010062 1010063 r.2):=by
 unfold host_Host_Tick__o0 at h
 refine bo Tryz.f38 rfl fun F0 w0=>?_
 refine Wp.seq (rg [0,1] [1000000,1010060,1010061,1010062,1010063] [(0,.own 1000000 0),(1,vi a1)] (qh39 1000000 1010060 1010061 1010062 1010063 h0) (To.thenN (Wp.seq (Wp.seq (rg [0,1,15] [1000000,1010060,1010061,1010062,1010063] [(0,.own 1000000 0),(1,vi a1),(15,vb false)] (qh39 1000000 1010060 1010061 1010062 1010063 h0) (To.thenN (Wp.cond (b:=false) (by kernel_rfl) (fun hb=>by cases hb) (fun _=>(Wp.skip (To.thenN (Wp.seq ?_)))))))))))
 obtain ⟨x1,hx1,h⟩:=lett_of h
 refine rg [0,5] [1000000,1010060,1010061,1010062,1010063] [(0,.own 1000000 0),(5,vi (IntKind.wrap .i64 (h0.f_now + (if (10000:Int) < (ex26 a1) then 10000 else (ex26 a1)))))] (qh39 1000000 1010060 1010061 1010062 1010063 h0) (To.eq (K':=[(0,.own 1000000 0),(5,vi x1)]) (L':=(qh39 1000000 1010060 1010061 1010062 1010063 h0)) (by cases hx1; rfl) (by cases hx1; rfl) (To.thenN (Wp.seq (rg [0,5,6] [1000000,1010060,1010061,1010062,1010063] [(0,.own 1000000 0),(5,vi x1),(6,.val (.slice none 0 0))] (qh39 1000000 1010060 1010061 1010062 1010063 h0) (To.thenN (Wp.seq (Wp.block ?_)))))))
 obtain ⟨o2,ho2,h⟩:=bind_of h
 refine kw [0,5,6] [1000000,1010060,1010061,1010062,1010063] [(0,.own 1000000 0),(5,vi x1),(6,.val (.slice none 0 0))] (qh39 1000000 1010060 1010061 1010062 1010063 h0) (Wp.pre (St.vacant (t:=6) (k:=1006) (e:=137) (K':=[(0,.own 1000000 0),(5,vi x1),(6,.row 1006)]) (good_E_host_Event _) (by decide) (by kernel_rfl) (by kernel_rfl)) (kw [0,5,6] [1006,1000000,1010060,1010061,1010062,1010063] [(0,.own 1000000 0),(5,vi x1),(6,.row 1006)] ((1006,137,[rc42 []])::qh39 1000000 1010060 1010061 1010062 1010063 h0) (Wp.loopL (ok_host_Host_Tick__o0_l1 n x1 n ([]:List (S_host_Event)) h0 o2 ho2 (To.blockX (To.thenN (Wp.seq (rg [6] [1006,1000000,1010060,1010061,1010062,1010063] [(6,.row 1006)] ((1006,137,[rc42 o2.1])::(1000000,139,[.own 1010060 0,rs33 o2.2.f_plan.f_l,vi o2.2.f_plan.f_more,vi x1])::qf5 1010060 1010061 1010062 1010063 o2.2.f_Store) (To.thenN (Wp.seq ?_))))))))))
 refine rg [4] [1006,1000000,1010060,1010061,1010062,1010063] [(4,.row 1006)] ((1006,137,[rc42 o2.1])::(1000000,139,[.own 1010060 0,rs33 o2.2.f_plan.f_l,vi o2.2.f_plan.f_more,vi x1])::qf5 1010060 1010061 1010062 1010063 o2.2.f_Store) (To.thenN (Wp.ret (To.pre (St.settle (ks:=[1006]) (kk:=[4]) (kl:=[1006,1000000,1010060,1010061,1010062,1010063]) (K':=[(4,.row 1006)]) (L':=((1006,137,[rc44 o2.1])::(1000000,139,[.own 1010060 0,rs33 o2.2.f_plan.f_l,vi o2.2.f_plan.f_more,vi x1])::qf5 1010060 1010061 1010062 1010063 o2.2.f_Store)) (by kernel_rfl)) (To.pre (St.sealK [4] (K':=[(4,rs43 o2.1)]) (by kernel_rfl)) ?_))))
 cases h
 exact To.doneB hΓ [1000000,1010060,1010061,1010062,1010063] (by kernel_rfl) (by kernel_rfl)
def host_Host_Now__o0 (h0:S_host_Host):Int × S_host_Host :=
 (h0.f_now,h0)
theorem ok_host_Host_Now__o0 (h0:S_host_Host) (r:Int × S_host_Host) (h:host_Host_Now__o0 h0 = r):CallsB Tryz.prog 40 [.own 1000000 0] (qh39 1000000 1010060 1010061 1010062 1010063 h0) (vi r.1) (qh39 1000000 1010060 1010061 1010062 1010063 r.2):=by
 unfold host_Host_Now__o0 at h
 refine bo Tryz.f40 rfl fun F0 w0=>?_
 refine Wp.seq (rg [0] [1000000,1010060,1010061,1010062,1010063] [(0,.own 1000000 0)] (qh39 1000000 1010060 1010061 1010062 1010063 h0) (To.thenN (Wp.seq (Wp.seq (rg [0,4] [1000000,1010060,1010061,1010062,1010063] [(0,.own 1000000 0),(4,vb false)] (qh39 1000000 1010060 1010061 1010062 1010063 h0) (To.thenN (Wp.cond (b:=false) (by kernel_rfl) (fun hb=>by cases hb) (fun _=>(Wp.skip (To.thenN (Wp.seq ?_)))))))))))
 refine rg [2] [1000000,1010060,1010061,1010062,1010063] [(2,vi h0.f_now)] (qh39 1000000 1010060 1010061 1010062 1010063 h0) (To.thenN (Wp.ret ?_))
 cases h
 exact To.doneB hΓ [1000000,1010060,1010061,1010062,1010063] (by kernel_rfl) (by kernel_rfl)
def law35_awake (n:Nat):Option (Bool) :=
 (host_New_o n []).bind fun r1 =>
 (host_Host_Call__o0 n (S_api_Call.mk 5 [] 0 (S_api_Spec.mk [99] [] [] 0 [] [] [] (S_api_Check.mk [116] 5 0 2) 0 0)) r1).bind fun r2 =>
 (host_Host_Call__o0 n (S_api_Call.mk 6 [] r2.1 (S_api_Spec.mk [] [] [] 0 [] [] [] (S_api_Check.mk [] 0 0 0) 0 0)) r2.2.2).bind fun r3 =>
 (host_Host_Sick__o0 n r2.1 true r3.2.2).bind fun r4 =>
 (host_Host_Tick__o0 n 10 r4.2).bind fun r5 =>
 if ((!(((List.length r5.1:Int) == 1) == true) || decide (0 ≤ (0:Int) ∧ (0:Int) < (List.length r5.1:Int)))) = true then (lett ((if ((bif ((List.length r5.1:Int) == 1) then ((((r5.1)[Int.toNat 0]?.getD (S_host_Event.mk 0 0 0 0)).f_At == 10) && ((((r5.1)[Int.toNat 0]?.getD (S_host_Event.mk 0 0 0 0)).f_Kind == 3) && ((((r5.1)[Int.toNat 0]?.getD (S_host_Event.mk 0 0 0 0)).f_Id == 1) && (((r5.1)[Int.toNat 0]?.getD (S_host_Event.mk 0 0 0 0)).f_What == 3)))) else false) == true) = true then host_Host_Now__o0 r5.2 else (0,r5.2))) fun r6 =>
 lett ((bif (bif ((List.length r5.1:Int) == 1) then ((((r5.1)[Int.toNat 0]?.getD (S_host_Event.mk 0 0 0 0)).f_At == 10) && ((((r5.1)[Int.toNat 0]?.getD (S_host_Event.mk 0 0 0 0)).f_Kind == 3) && ((((r5.1)[Int.toNat 0]?.getD (S_host_Event.mk 0 0 0 0)).f_Id == 1) && (((r5.1)[Int.toNat 0]?.getD (S_host_Event.mk 0 0 0 0)).f_What == 3)))) else false) then (r6.1 == 10) else false):Bool) fun x7 =>
 some x7) else none
theorem ok_law35_awake (n:Nat) (r:Bool) (h:law35_awake n = some r):CallsX Tryz.prog 26 [] (vb r):=by
 unfold law35_awake at h
 refine xo Tryz.f26 rfl fun F0 w0 _=>?_
 refine Wp.seq (rg [] [] [] [] (To.thenN (Wp.seq ?_)))
 obtain ⟨r1,hr1,h⟩:=bind_of h
 refine rb [] 0 ⟨[],[(1,5),(2,700202),(3,700203),(4,700204),(5,700205)],[.val (.slice none 0 0)],[],.own 1 0,(qh39 1 2 3 4 5 r1)⟩ [1] [5,700202,700203,700204,700205] [(1,.own 5 0)] (qh39 5 700202 700203 700204 700205 r1) (callsB_args (.cons (.zero _ _) .nil) .nil (ok_host_New_o n [] _ hr1)) (To.thenN (Wp.seq ?_))
 obtain ⟨r2,hr2,h⟩:=bind_of h
 refine rb [] 4 ⟨[(1000000,5),(1010060,700202),(1010061,700203),(1010062,700204),(1010063,700205)],[(1000000,5),(1010060,700202),(1010061,700203),(1010062,700204),(1010063,700205)],[.own 1000000 0,.agg [vi 5,.str [],vi 0,.str [99],.str [],.str [],vi 0,.str [],.val (.slice none 0 0),.val (.slice none 0 0),.str [116],vi 5,vi 0,vi 2,vi 0,vi 0]],(qh39 1000000 1010060 1010061 1010062 1010063 r1),.tup [vi r2.1,vi r2.2.1],(qh39 1000000 1010060 1010061 1010062 1010063 r2.2.2)⟩ [1,2] [5,700202,700203,700204,700205] [(1,.own 5 0),(2,vi r2.1)] (qh39 5 700202 700203 700204 700205 r2.2.2) (callsB_args (.cons (.refl _) (.cons (.agg (.cons (.refl _) (.cons (.refl _) (.cons (.refl _) (.cons (.refl _) (.cons (.refl _) (.cons (.refl _) (.cons (.refl _) (.cons (.refl _) (.cons (.zero _ _) (.cons (.zero _ _) (.cons (.refl _) (.cons (.refl _) (.cons (.refl _) (.cons (.refl _) (.cons (.refl _) (.cons (.refl _) .nil))))))))))))))))) .nil)) (.cons (.cons (.refl _) (.cons (.refl _) (.cons (.refl _) (.cons (.refl _) .nil)))) (.cons (.cons (.refl _) (.cons (.refl _) (.cons (.refl _) (.cons (.refl _) .nil)))) (.cons (.cons (.refl _) .nil) (.cons (.cons (.refl _) .nil) (.cons (.cons (.refl _) .nil) .nil))))) (ok_host_Host_Call__o0 n (S_api_Call.mk 5 [] 0 (S_api_Spec.mk [99] [] [] 0 [] [] [] (S_api_Check.mk [116] 5 0 2) 0 0)) r1 _ hr2)) (To.thenN (Wp.seq ?_))
 obtain ⟨r3,hr3,h⟩:=bind_of h
 refine rb [] 3 ⟨[(1000000,5),(1010060,700202),(1010061,700203),(1010062,700204),(1010063,700205)],[(1000000,5),(1010060,700202),(1010061,700203),(1010062,700204),(1010063,700205)],[.own 1000000 0,.agg [vi 6,.str [],vi r2.1,.str [],.str [],.str [],vi 0,.str [],.val (.slice none 0 0),.val (.slice none 0 0),.str [],vi 0,vi 0,vi 0,vi 0,vi 0]],(qh39 1000000 1010060 1010061 1010062 1010063 r2.2.2),.tup [vi r3.1,vi r3.2.1],(qh39 1000000 1010060 1010061 1010062 1010063 r3.2.2)⟩ [1,2] [5,700202,700203,700204,700205] [(1,.own 5 0),(2,vi r2.1)] (qh39 5 700202 700203 700204 700205 r3.2.2) (callsB_args (.cons (.refl _) (.cons (.agg (.cons (.refl _) (.cons (.refl _) (.cons (.refl _) (.cons (.refl _) (.cons (.refl _) (.cons (.refl _) (.cons (.refl _) (.cons (.refl _) (.cons (.zero _ _) (.cons (.zero _ _) (.cons (.refl _) (.cons (.refl _) (.cons (.refl _) (.cons (.refl _) (.cons (.refl _) (.cons (.refl _) .nil))))))))))))))))) .nil)) (.cons (.cons (.refl _) (.cons (.refl _) (.cons (.refl _) (.cons (.refl _) .nil)))) (.cons (.cons (.refl _) (.cons (.refl _) (.cons (.refl _) (.cons (.refl _) .nil)))) (.cons (.cons (.refl _) .nil) (.cons (.cons (.refl _) .nil) (.cons (.cons (.refl _) .nil) .nil))))) (ok_host_Host_Call__o0 n (S_api_Call.mk 6 [] r2.1 (S_api_Spec.mk [] [] [] 0 [] [] [] zx13 0 0)) r2.2.2 _ hr3)) (To.thenN (Wp.seq ?_))
 obtain ⟨r4,hr4,h⟩:=bind_of h
 refine rb [] 2 ⟨[(1000000,5),(1010060,700202),(1010061,700203),(1010062,700204),(1010063,700205)],[(1000000,5),(1010060,700202),(1010061,700203),(1010062,700204),(1010063,700205)],[.own 1000000 0,vi r2.1,vb true],(qh39 1000000 1010060 1010061 1010062 1010063 r3.2.2),vb r4.1,(qh39 1000000 1010060 1010061 1010062 1010063 r4.2)⟩ [1] [5,700202,700203,700204,700205] [(1,.own 5 0)] (qh39 5 700202 700203 700204 700205 r4.2) ((ok_host_Host_Sick__o0 n r2.1 true r3.2.2 _ hr4)) (To.thenN (Wp.seq ?_))
 obtain ⟨r5,hr5,h⟩:=bind_of h
 refine rb [] 1 ⟨[(1000000,5),(1010060,700202),(1010061,700203),(1010062,700204),(1010063,700205)],[(1000000,5),(1010060,700202),(1010061,700203),(1010062,700204),(1010063,700205)],[.own 1000000 0,vi 10],(qh39 1000000 1010060 1010061 1010062 1010063 r4.2),rs43 r5.1,(qh39 1000000 1010060 1010061 1010062 1010063 r5.2)⟩ [1,4] [5,700202,700203,700204,700205] [(1,.own 5 0),(4,rs43 r5.1)] (qh39 5 700202 700203 700204 700205 r5.2) ((ok_host_Host_Tick__o0 n 10 r4.2 _ hr5)) (To.thenN (Wp.seq ?_))
 obtain ⟨hc8,h⟩:=chk_of h
 obtain ⟨r6,hr6,h⟩:=lett_of h
 obtain ⟨x7,hx7,h⟩:=lett_of h
 refine rr [] [] [(12,⟨[(1000000,5),(1010060,700202),(1010061,700203),(1010062,700204),(1010063,700205)],[(1000000,5),(1010060,700202),(1010061,700203),(1010062,700204),(1010063,700205)],[.own 1000000 0],(qh39 1000000 1010060 1010061 1010062 1010063 r5.2),vi r6.1,(qh39 1000000 1010060 1010061 1010062 1010063 r6.2)⟩)] [0] [] [(0,vb (bif (bif ((List.length r5.1:Int) == 1) then ((((r5.1)[Int.toNat 0]?.getD zx41).f_At == 10) && ((((r5.1)[Int.toNat 0]?.getD zx41).f_Kind == 3) && ((((r5.1)[Int.toNat 0]?.getD zx41).f_Id == 1) && (((r5.1)[Int.toNat 0]?.getD zx41).f_What == 3)))) else false) then (r6.1 == 10) else false))] [] [_,(((bif ((List.length r5.1:Int) == 1) then ((((r5.1)[Int.toNat 0]?.getD zx41).f_At == 10) && ((((r5.1)[Int.toNat 0]?.getD zx41).f_Kind == 3) && ((((r5.1)[Int.toNat 0]?.getD zx41).f_Id == 1) && (((r5.1)[Int.toNat 0]?.getD zx41).f_What == 3)))) else false) == true) = true → CbOb (CallsB Tryz.prog) 40 [.own 5 0] (ph40 700202 700203 700204 700205 r5.2) ⟨[(1000000,5),(1010060,700202),(1010061,700203),(1010062,700204),(1010063,700205)],[(1000000,5),(1010060,700202),(1010061,700203),(1010062,700204),(1010063,700205)],[.own 1000000 0],(qh39 1000000 1010060 1010061 1010062 1010063 r5.2),vi r6.1,(qh39 1000000 1010060 1010061 1010062 1010063 r6.2)⟩),(((bif ((List.length r5.1:Int) == 1) then ((((r5.1)[Int.toNat 0]?.getD zx41).f_At == 10) && ((((r5.1)[Int.toNat 0]?.getD zx41).f_Kind == 3) && ((((r5.1)[Int.toNat 0]?.getD zx41).f_Id == 1) && (((r5.1)[Int.toNat 0]?.getD zx41).f_What == 3)))) else false) == true) = false → KeepOb (qh39 5 700202 700203 700204 700205 r5.2) ⟨[(1000000,5),(1010060,700202),(1010061,700203),(1010062,700204),(1010063,700205)],[(1000000,5),(1010060,700202),(1010061,700203),(1010062,700204),(1010063,700205)],[.own 1000000 0],(qh39 1000000 1010060 1010061 1010062 1010063 r5.2),vi r6.1,(qh39 1000000 1010060 1010061 1010062 1010063 r6.2)⟩)] (AllP.cons hc8 (AllP.cons (fun hg=>⟨(ok_host_Host_Now__o0 r5.2 _ (if_t hg hr6)),by kernel_rfl,by kernel_rfl⟩) (AllP.cons (fun hg=>by cases if_f hg hr6; exact keepOb (by kernel_rfl)) AllP.nil))) ?_
 refine To.eq (K':=[(0,vb x7)]) (L':=[]) (by cases hx7; rfl) (by cases hx7; rfl) (To.thenN (Wp.ret ?_))
 cases h
 exact To.done hΓ (by kernel_rfl)
def law35_gaps_l1 (n:Nat) (v0:List (S_fault_Gap)):Nat → (List (S_fault_Gap)) → Int → Option ((List (S_fault_Gap)))
 | 0,_,_=>none
 | k + 1,v3,v4=>if (decide (v4 < (List.length v0:Int))) = true then (if (decide (0 ≤ v4 ∧ v4 < (List.length v0:Int))) = true then (if (decide ((List.length v3 + List.length ([((v0)[Int.toNat v4]?.getD (S_fault_Gap.mk 0 0))]:List (S_fault_Gap))) * (16 + 1) ≤ limit)) = true then (law35_gaps_l1 n v0 k (v3 ++ ([((v0)[Int.toNat v4]?.getD (S_fault_Gap.mk 0 0))]:List (S_fault_Gap))) (IntKind.wrap .i64 (v4 + 1))) else none) else none)
 else some v3
abbrev ex40 (x0:List (S_fault_Gap)) (x1:Int):=([((x0)[Int.toNat x1]?.getD zx31)]:List (S_fault_Gap))
abbrev ex41 (x0:Int):Nat × D:=(4,vi (IntKind.wrap .i64 (x0 + 1)))
theorem ok_law35_gaps_l1 (n:Nat) (v0:List (S_fault_Gap)) {F0:Fz} {w0:Pt Tryz.prog} {Q:Exit → Act → World → Prop} (k:Nat):∀ (v3:List (S_fault_Gap)) (v4:Int) (o:(List (S_fault_Gap))),law35_gaps_l1 n v0 k v3 v4 = some o → To 19 F0 w0 [(3,.row 1003)] [(1003,97,[rc34 o])] (.exit 0) Q → WL Tryz.prog 19 F0 w0 [(0,rs32 v0),(3,.row 1003),(4,vi v4)] [(1003,97,[rc34 v3])] (cI (cI (cB (cA (cB (cB (cF Tryz.f28))))))) Q:=by
 induction k with
 | zero=>intro v3 v4 o h; cases h
 | succ k ih =>
  intro v3 v4 o h hQ
  rw [law35_gaps_l1] at h
  refine WL.round (Wp.seq (Wp.seq (rg [0,3,4,8] [1003] [(0,rs32 v0),(3,.row 1003),(4,vi v4),(8,vb (decide (v4 < (List.length v0:Int))))] [(1003,97,[rc34 v3])] (To.thenN (cn h (fun h=>?_) (fun h=>?_))))))
  ·refine Wp.skip (To.thenN (Wp.seq (Wp.block ?_)))
   obtain ⟨hc1,h⟩:=chk_of h
   obtain ⟨hc2,h⟩:=chk_of h
   refine rr [] [(5,rs33 ([((v0)[Int.toNat v4]?.getD zx31)])),(6,rs33 (v3 ++ (ex40 v0 v4)))] [] [0,3,4] [17] [(0,rs32 v0),(3,.row 17),(4,vi v4)] [(17,97,[rc34 (v3 ++ (ex40 v0 v4))])] [_,(MkOb 2 [vi (((v0)[Int.toNat v4]?.getD zx31).f_Skip),vi (((v0)[Int.toNat v4]?.getD zx31).f_Fail)] 1 (rs33 ([((v0)[Int.toNat v4]?.getD zx31)])) ∧ GoodR (rs33 ([((v0)[Int.toNat v4]?.getD zx31)]))),_,(AppOb zx31 E_fault_Gap v3 (List.flatMap E_fault_Gap (ex40 v0 v4)) (List.length (ex40 v0 v4)) (rs33 (v3 ++ (ex40 v0 v4))) ∧ GoodR (rs33 (v3 ++ (ex40 v0 v4))))] (AllP.cons hc1 (AllP.cons (mkOb (by kernel_rfl) rfl (by kernel_rfl) (good_E_fault_Gap _)) (AllP.cons hc2 (AllP.cons (appOb rfl rfl (good_E_fault_Gap _)) AllP.nil)))) (To.blockN (To.thenN (rg [0,3,4] [17] [(0,rs32 v0),(3,.row 17),(ex41 v4)] [(17,97,[rc34 (v3 ++ (ex40 v0 v4))])] (nt [0,3,4] [17] [(17,1003)] [0,3,4] [1003] [(0,rs32 v0),(3,.row 1003),(ex41 v4)] [(1003,97,[rc34 (v3 ++ (ex40 v0 v4))])] (To.again ?_)))))
   exact ih (v3 ++ (ex40 v0 v4)) (IntKind.wrap .i64 (v4 + 1)) _ h hQ
  ·refine Wp.exit (To.thenX (To.thenX (kt [3] [1003] [(3,.row 1003)] [(1003,97,[rc34 v3])] ?_)))
   cases h
   exact hQ
def law35_gaps (n:Nat) (a0:List (S_fault_Gap)):Option ((List (S_fault_Gap))) :=
 (law35_gaps_l1 n a0 n ([]:List (S_fault_Gap)) 0).bind fun o1 =>
 some o1
theorem ok_law35_gaps (n:Nat) (a0:List (S_fault_Gap)) (r:(List (S_fault_Gap))) (h:law35_gaps n a0 = some r):CallsX Tryz.prog 28 [rs32 a0] (rs33 r):=by
 unfold law35_gaps at h
 refine xo Tryz.f28 rfl fun F0 w0 _=>?_
 refine Wp.seq (rg [0] [] [(0,rs32 a0)] [] (To.thenN (Wp.seq (rg [0,3] [] [(0,rs32 a0),(3,.val (.slice none 0 0))] [] (To.thenN (Wp.seq (Wp.seq (rg [0,3,4] [] [(0,rs32 a0),(3,.val (.slice none 0 0)),(4,vi 0)] [] (To.thenN (Wp.block ?_))))))))))
 obtain ⟨o1,ho1,h⟩:=bind_of h
 refine kw [0,3,4] [] [(0,rs32 a0),(3,.val (.slice none 0 0)),(4,vi 0)] [] (Wp.pre (St.vacant (t:=3) (k:=1003) (e:=97) (K':=[(0,rs32 a0),(3,.row 1003),(4,vi 0)]) (good_E_fault_Gap _) (by decide) (by kernel_rfl) (by kernel_rfl)) (kw [0,3,4] [1003] [(0,rs32 a0),(3,.row 1003),(4,vi 0)] [(1003,97,[rc34 []])] (Wp.loopL (ok_law35_gaps_l1 n a0 n ([]:List (S_fault_Gap)) 0 o1 ho1 (To.blockX (To.thenN (Wp.seq (rg [2] [1003] [(2,.row 1003)] [(1003,97,[rc34 o1])] (To.thenN (Wp.ret ?_))))))))))
 refine To.pre (St.settle (ks:=[1003]) (kk:=[2]) (kl:=[1003]) (K':=[(2,.row 1003)]) (L':=[(1003,97,[rc35 o1])]) (by kernel_rfl)) (To.pre (St.sealK [2] (K':=[(2,rs33 o1)]) (by kernel_rfl)) ?_)
 cases h
 exact To.done hΓ (by kernel_rfl)
def host_Host_Boxes__o0 (n:Nat) (h0:S_host_Host):Option ((List (S_api_Container)) × S_host_Host) :=
 (store_Store_Boxes__o0 n h0.f_Store).bind fun r1 =>
 some (r1.1,(S_host_Host.mk r1.2 h0.f_plan h0.f_now))
theorem ok_host_Host_Boxes__o0 (n:Nat) (h0:S_host_Host) (r:(List (S_api_Container)) × S_host_Host) (h:host_Host_Boxes__o0 n h0 = some r):CallsB Tryz.prog 31 [.own 1000000 0] (qh39 1000000 1010060 1010061 1010062 1010063 h0) (rs29 r.1) (qh39 1000000 1010060 1010061 1010062 1010063 r.2):=by
 unfold host_Host_Boxes__o0 at h
 refine bo Tryz.f31 rfl fun F0 w0=>?_
 refine Wp.seq (rg [0] [1000000,1010060,1010061,1010062,1010063] [(0,.own 1000000 0)] (qh39 1000000 1010060 1010061 1010062 1010063 h0) (To.thenN (Wp.seq (Wp.seq (rg [0,4] [1000000,1010060,1010061,1010062,1010063] [(0,.own 1000000 0),(4,vb false)] (qh39 1000000 1010060 1010061 1010062 1010063 h0) (To.thenN (Wp.cond (b:=false) (by kernel_rfl) (fun hb=>by cases hb) (fun _=>(Wp.skip (To.thenN (Wp.seq ?_)))))))))))
 obtain ⟨r1,hr1,h⟩:=bind_of h
 refine rb [] 4 ⟨[(1000000,1010060),(1010060,1010061),(1010061,1010062),(1010062,1010063)],[(1000000,1010060),(1010060,1010061),(1010061,1010062),(1010062,1010063)],[.own 1000000 0],(qf5 1000000 1010060 1010061 1010062 h0.f_Store),rs29 r1.1,(qf5 1000000 1010060 1010061 1010062 r1.2)⟩ [2] [1000000,1010060,1010061,1010062,1010063] [(2,rs29 r1.1)] ((1000000,139,[.own 1010060 0,rs33 h0.f_plan.f_l,vi h0.f_plan.f_more,vi h0.f_now])::qf5 1010060 1010061 1010062 1010063 r1.2) ((ok_store_Store_Boxes__o0 n h0.f_Store _ hr1)) (To.thenN (Wp.ret ?_))
 cases h
 exact To.doneB hΓ [1000000,1010060,1010061,1010062,1010063] (by kernel_rfl) (by kernel_rfl)
end Go.Proofs.YtaecmkldkljioaaGreat.M
