import Derived.Test.YtaecmkldkljioaaGreatQM35f
set_option linter.all false
namespace Go.Proofs.YtaecmkldkljioaaGreat.M
open Go.RowKit Go.Proofs.YtaecmkldkljioaaGreat.RX
set_option maxRecDepth 100000
structure S_law35_Deed where
 f_Kind:Int
 f_N:Int
 f_M:Int
 f_Call:S_api_Call
abbrev Z_law35_Deed:S_law35_Deed:=(S_law35_Deed.mk 0 0 0 (S_api_Call.mk 0 [] 0 Z_api_Spec))
def E_law35_Deed:S_law35_Deed → List D:=fun x=>[.val (.int .i64 x.f_Kind),.val (.int .i64 x.f_N),.val (.int .i64 x.f_M),.val (.int .i64 x.f_Call.f_Kind),.str x.f_Call.f_Name,.val (.int .i64 x.f_Call.f_Id),.str x.f_Call.f_Spec.f_Name,.str x.f_Call.f_Spec.f_Project,.str x.f_Call.f_Spec.f_Service,.val (.int .i64 x.f_Call.f_Spec.f_Number),.str x.f_Call.f_Spec.f_Hash,.recs (α:=List UInt8) [] E_string x.f_Call.f_Spec.f_Nets,.recs (α:=List UInt8) [] E_string x.f_Call.f_Spec.f_Vols,.str x.f_Call.f_Spec.f_Health.f_Test,.val (.int .i64 x.f_Call.f_Spec.f_Health.f_Every),.val (.int .i64 x.f_Call.f_Spec.f_Health.f_Start),.val (.int .i64 x.f_Call.f_Spec.f_Health.f_Retries),.val (.int .i64 x.f_Call.f_Spec.f_Restart),.val (.int .i64 x.f_Call.f_Spec.f_Tries)]
theorem good_E_api_Call (l:List (S_api_Call)):GoodR (.recs (S_api_Call.mk 0 [] 0 Z_api_Spec) E_api_Call l):=⟨Nat.le_of_ble_eq_true (by kernel_rfl),fun _=>⟨rfl,rfl⟩⟩
def law35_Few_j3 (n:Nat) (v0:List (S_law35_Deed)) (v1:Int) (v5:List (S_api_Call)) (v6:Int) (v7:Bool) (v8:Int) (v41:Bool):Option (Int) :=
 if v41 = true then (if (decide (0 ≤ v8 ∧ v8 < (List.length v0:Int))) = true then (if (decide ((((v0)[Int.toNat v8]?.getD Z_law35_Deed).f_N) > 10000)) = true then (some (IntKind.wrap .i64 (v6 + 10000)))
 else (if (decide (0 ≤ v8 ∧ v8 < (List.length v0:Int))) = true then (some (IntKind.wrap .i64 (v6 + (((v0)[Int.toNat v8]?.getD Z_law35_Deed).f_N)))) else none)) else none)
 else some v6
abbrev rs45 (l:List (S_law35_Deed)):D:=.recs (α:=S_law35_Deed) Z_law35_Deed E_law35_Deed l
abbrev rc46 (l:List (S_api_Call)):D:=.rowc false (α:=S_api_Call) (S_api_Call.mk 0 [] 0 Z_api_Spec) E_api_Call l
abbrev ex42 (x0:List (S_law35_Deed)) (x1:Int):=((x0)[Int.toNat x1]?.getD Z_law35_Deed)
abbrev ex43 (x0:Int) (x1:List (S_law35_Deed)):=(0 ≤ x0 ∧ x0 < (List.length x1:Int))
theorem ok_law35_Few_j3 (n:Nat) (v0:List (S_law35_Deed)) (v1:Int) (v5:List (S_api_Call)) (v6:Int) (v7:Bool) (v8:Int) (v41:Bool) (o:Int) (h:law35_Few_j3 n v0 v1 v5 v6 v7 v8 v41 = some o) {F0:Fz} {w0:Pt Tryz.prog} {Q:Exit → Act → World → Prop} (hQ:To 134 F0 w0 [(0,rs45 v0),(1,vi v1),(5,.row 1005),(6,vi o),(7,vb v7),(8,vi v8)] [(1005,40,[rc46 v5])] .normal Q):Wp Tryz.prog 134 F0 w0 [(0,rs45 v0),(1,vi v1),(5,.row 1005),(6,vi v6),(7,vb v7),(8,vi v8),(41,vb v41)] [(1005,40,[rc46 v5])] (cB (cA (cB (cI (cA (cB (cI (cI (cB (cA (cB (cB (cB (cB (cF Tryz.f35))))))))))))))) Q:=by
 unfold law35_Few_j3 at h
 refine cn h (fun h=>?_) (fun h=>?_)
 ·refine Wp.seq ?_
  obtain ⟨hc3,h⟩:=chk_of h
  refine r0 [0,1,5,6,7,8,47] [1005] [(0,rs45 v0),(1,vi v1),(5,.row 1005),(6,vi v6),(7,vb v7),(8,vi v8),(47,vb (decide (((ex42 v0 v8).f_N) > 10000)))] [(1005,40,[rc46 v5])] (AllP.cons hc3 AllP.nil) (To.thenN (cn h (fun h=>?_) (fun h=>?_)))
  ·refine rg [0,1,5,6,7,8] [1005] [(0,rs45 v0),(1,vi v1),(5,.row 1005),(6,vi (IntKind.wrap .i64 (v6 + 10000))),(7,vb v7),(8,vi v8)] [(1005,40,[rc46 v5])] (kt [0,1,5,6,7,8] [1005] [(0,rs45 v0),(1,vi v1),(5,.row 1005),(6,vi (IntKind.wrap .i64 (v6 + 10000))),(7,vb v7),(8,vi v8)] [(1005,40,[rc46 v5])] ?_)
   cases h
   exact hQ
  ·obtain ⟨hc2,h⟩:=chk_of h
   refine r0 [0,1,5,6,7,8] [1005] [(0,rs45 v0),(1,vi v1),(5,.row 1005),(6,vi (IntKind.wrap .i64 (v6 + ((ex42 v0 v8).f_N)))),(7,vb v7),(8,vi v8)] [(1005,40,[rc46 v5])] (AllP.cons hc2 AllP.nil) (kt [0,1,5,6,7,8] [1005] [(0,rs45 v0),(1,vi v1),(5,.row 1005),(6,vi (IntKind.wrap .i64 (v6 + ((ex42 v0 v8).f_N)))),(7,vb v7),(8,vi v8)] [(1005,40,[rc46 v5])] ?_)
   cases h
   exact hQ
 ·refine Wp.skip (kt [0,1,5,6,7,8] [1005] [(0,rs45 v0),(1,vi v1),(5,.row 1005),(6,vi v6),(7,vb v7),(8,vi v8)] [(1005,40,[rc46 v5])] ?_)
  cases h
  exact hQ
def law35_Few_j2 (n:Nat) (v0:List (S_law35_Deed)) (v1:Int) (v5:List (S_api_Call)) (v6:Int) (v7:Bool) (v8:Int):Option (Sum ((List (S_api_Call)) × Int × Bool) (Bool)) :=
 if (decide (0 ≤ v8 ∧ v8 < (List.length v0:Int))) = true then (if (decide ((List.length v5 + List.length ([((v0)[Int.toNat v8]?.getD Z_law35_Deed).f_Call]:List (S_api_Call))) * (208 + 1) ≤ limit)) = true then (if (decide (0 ≤ v8 ∧ v8 < (List.length v0:Int))) = true then (if ((10 != 0)) = true then (if ((!(((Int.tmod (((v0)[Int.toNat v8]?.getD Z_law35_Deed).f_Kind) 10) == 5) == true) || decide (0 ≤ v8 ∧ v8 < (List.length v0:Int)))) = true then (lett ((bif ((Int.tmod (((v0)[Int.toNat v8]?.getD Z_law35_Deed).f_Kind) 10) == 5) then (decide ((((v0)[Int.toNat v8]?.getD Z_law35_Deed).f_N) > 0)) else false):Bool) fun x1 =>
 (law35_Few_j3 n v0 v1 (v5 ++ ([((v0)[Int.toNat v8]?.getD Z_law35_Deed).f_Call]:List (S_api_Call))) v6 v7 v8 x1).bind fun o2 =>
 if ((!(v7 == false) || decide (0 ≤ v8 ∧ v8 < (List.length v0:Int)))) = true then (if ((!(((!((((v0)[Int.toNat v8]?.getD Z_law35_Deed).f_Call.f_Spec.f_Health.f_Test) == [])) == true) && (v7 == false)) || decide (0 ≤ v8 ∧ v8 < (List.length v0:Int)))) = true then (if ((!(((bif (!((((v0)[Int.toNat v8]?.getD Z_law35_Deed).f_Call.f_Spec.f_Health.f_Test) == [])) then (decide ((((v0)[Int.toNat v8]?.getD Z_law35_Deed).f_Call.f_Spec.f_Health.f_Every) < 20)) else false) == true) && (v7 == false)) || decide (0 ≤ v8 ∧ v8 < (List.length v0:Int)))) = true then (lett ((bif v7 then true else (bif (bif (!((((v0)[Int.toNat v8]?.getD Z_law35_Deed).f_Call.f_Spec.f_Health.f_Test) == [])) then (decide ((((v0)[Int.toNat v8]?.getD Z_law35_Deed).f_Call.f_Spec.f_Health.f_Every) < 20)) else false) then (decide ((((v0)[Int.toNat v8]?.getD Z_law35_Deed).f_Call.f_Spec.f_Health.f_Every) > 0)) else false)):Bool) fun x3 =>
 if (decide (o2 > 20000)) = true then (some (.inr false))
 else (if (decide (0 ≤ v8 ∧ v8 < (List.length v0:Int))) = true then (if ((10 != 0)) = true then (if ((!(((Int.tmod (((v0)[Int.toNat v8]?.getD Z_law35_Deed).f_Kind) 10) == 9) == true) || decide (0 ≤ v8 ∧ v8 < (List.length v0:Int)))) = true then (if ((!(((decide ((((v0)[Int.toNat v8]?.getD Z_law35_Deed).f_N) > 30)) == false) && (((Int.tmod (((v0)[Int.toNat v8]?.getD Z_law35_Deed).f_Kind) 10) == 9) == true)) || decide (0 ≤ v8 ∧ v8 < (List.length v0:Int)))) = true then (lett ((bif ((Int.tmod (((v0)[Int.toNat v8]?.getD Z_law35_Deed).f_Kind) 10) == 9) then (bif (decide ((((v0)[Int.toNat v8]?.getD Z_law35_Deed).f_N) > 30)) then true else (decide ((((v0)[Int.toNat v8]?.getD Z_law35_Deed).f_M) > 30))) else false):Bool) fun x4 =>
 if x4 = true then (some (.inr false))
 else (some (.inl ((v5 ++ ([((v0)[Int.toNat v8]?.getD Z_law35_Deed).f_Call]:List (S_api_Call))),o2,x3)))) else none) else none) else none) else none)) else none) else none) else none) else none) else none) else none) else none) else none
abbrev ex70 (x0:List (S_law35_Deed)) (x1:Int):=([(ex42 x0 x1).f_Call]:List (S_api_Call))
abbrev ex71 (x0:List (S_law35_Deed)) (x1:Int):=((ex42 x0 x1).f_Call.f_Spec.f_Health.f_Every)
abbrev ex72 (x0:List (S_law35_Deed)) (x1:Int):=((ex42 x0 x1).f_Call.f_Spec.f_Health.f_Test)
theorem ok_law35_Few_j2 (n:Nat) (v0:List (S_law35_Deed)) (v1:Int) (v5:List (S_api_Call)) (v6:Int) (v7:Bool) (v8:Int) (o:Sum ((List (S_api_Call)) × Int × Bool) (Bool)) (h:law35_Few_j2 n v0 v1 v5 v6 v7 v8 = some o) {F0:Fz} {w0:Pt Tryz.prog} {Q:Exit → Act → World → Prop} (hQ:(Sum.elim (fun s=>To 134 F0 w0 [(0,rs45 v0),(1,vi v1),(5,.row 1005),(6,vi s.2.1),(7,vb s.2.2),(8,vi v8)] [(1005,40,[rc46 s.1])] .normal Q) (fun s=>To 134 F0 w0 [(4,vb s)] [] .ret Q)) o):Wp Tryz.prog 134 F0 w0 [(0,rs45 v0),(1,vi v1),(5,.row 1005),(6,vi v6),(7,vb v7),(8,vi v8)] [(1005,40,[rc46 v5])] (cA (cB (cI (cI (cB (cA (cB (cB (cB (cB (cF Tryz.f35))))))))))) Q:=by
 unfold law35_Few_j2 at h
 refine Wp.block (Wp.seq ?_)
 obtain ⟨hc15,h⟩:=chk_of h
 obtain ⟨hc16,h⟩:=chk_of h
 refine rr [] [(6,rs1 ([(ex42 v0 v8).f_Call])),(7,rs1 (v5 ++ (ex70 v0 v8)))] [] [0,1,5,6,7,8] [26] [(0,rs45 v0),(1,vi v1),(5,.row 26),(6,vi v6),(7,vb v7),(8,vi v8)] [(26,40,[rc46 (v5 ++ (ex70 v0 v8))])] [_,(MkOb 16 [vi ((ex42 v0 v8).f_Call.f_Kind),.str ((ex42 v0 v8).f_Call.f_Name),vi ((ex42 v0 v8).f_Call.f_Id),.str ((ex42 v0 v8).f_Call.f_Spec.f_Name),.str ((ex42 v0 v8).f_Call.f_Spec.f_Project),.str ((ex42 v0 v8).f_Call.f_Spec.f_Service),vi ((ex42 v0 v8).f_Call.f_Spec.f_Number),.str ((ex42 v0 v8).f_Call.f_Spec.f_Hash),ls ((ex42 v0 v8).f_Call.f_Spec.f_Nets),ls ((ex42 v0 v8).f_Call.f_Spec.f_Vols),.str (ex72 v0 v8),vi (ex71 v0 v8),vi ((ex42 v0 v8).f_Call.f_Spec.f_Health.f_Start),vi ((ex42 v0 v8).f_Call.f_Spec.f_Health.f_Retries),vi ((ex42 v0 v8).f_Call.f_Spec.f_Restart),vi ((ex42 v0 v8).f_Call.f_Spec.f_Tries)] 1 (rs1 ([(ex42 v0 v8).f_Call])) ∧ GoodR (rs1 ([(ex42 v0 v8).f_Call]))),_,(AppOb (S_api_Call.mk 0 [] 0 Z_api_Spec) E_api_Call v5 (List.flatMap E_api_Call (ex70 v0 v8)) (List.length (ex70 v0 v8)) (rs1 (v5 ++ (ex70 v0 v8))) ∧ GoodR (rs1 (v5 ++ (ex70 v0 v8))))] (AllP.cons hc15 (AllP.cons (mkOb (by kernel_rfl) rfl (by kernel_rfl) (good_E_api_Call _)) (AllP.cons hc16 (AllP.cons (appOb rfl rfl (good_E_api_Call _)) AllP.nil)))) (To.thenN (Wp.seq (Wp.seq ?_)))
 obtain ⟨hc12,h⟩:=chk_of h
 obtain ⟨hc13,h⟩:=chk_of h
 obtain ⟨hc14,h⟩:=chk_of h
 obtain ⟨x1,hx1,h⟩:=lett_of h
 refine r0 [0,1,5,6,7,8,41] [26] [(0,rs45 v0),(1,vi v1),(5,.row 26),(6,vi v6),(7,vb v7),(8,vi v8),(41,vb (bif ((Int.tmod ((ex42 v0 v8).f_Kind) 10) == 5) then (decide (((ex42 v0 v8).f_N) > 0)) else false))] [(26,40,[rc46 (v5 ++ (ex70 v0 v8))])] (AllP.cons hc12 (AllP.cons hc13 (AllP.cons hc14 AllP.nil))) (To.eq (K':=[(0,rs45 v0),(1,vi v1),(5,.row 26),(6,vi v6),(7,vb v7),(8,vi v8),(41,vb x1)]) (L':=[(26,40,[rc46 (v5 ++ (ex70 v0 v8))])]) (by cases hx1; rfl) (by cases hx1; rfl) (To.thenN ?_))
 obtain ⟨o2,ho2,h⟩:=bind_of h
 refine nw [0,1,5,6,7,8,41] [26] [(26,1005)] [0,1,5,6,7,8,41] [1005] [(0,rs45 v0),(1,vi v1),(5,.row 1005),(6,vi v6),(7,vb v7),(8,vi v8),(41,vb x1)] [(1005,40,[rc46 (v5 ++ (ex70 v0 v8))])] (ok_law35_Few_j3 n v0 v1 (v5 ++ (ex70 v0 v8)) v6 v7 v8 x1 o2 ho2 (To.thenN (Wp.seq ?_)))
 obtain ⟨hc9,h⟩:=chk_of h
 obtain ⟨hc10,h⟩:=chk_of h
 obtain ⟨hc11,h⟩:=chk_of h
 obtain ⟨x3,hx3,h⟩:=lett_of h
 refine r0 [0,1,5,6,7,8] [1005] [(0,rs45 v0),(1,vi v1),(5,.row 1005),(6,vi o2),(7,vb (bif v7 then true else (bif (bif (!((ex72 v0 v8) == [])) then (decide ((ex71 v0 v8) < 20)) else false) then (decide ((ex71 v0 v8) > 0)) else false))),(8,vi v8)] [(1005,40,[rc46 (v5 ++ (ex70 v0 v8))])] (AllP.cons hc9 (AllP.cons hc10 (AllP.cons hc11 AllP.nil))) (To.eq (K':=[(0,rs45 v0),(1,vi v1),(5,.row 1005),(6,vi o2),(7,vb x3),(8,vi v8)]) (L':=[(1005,40,[rc46 (v5 ++ (ex70 v0 v8))])]) (by cases hx3; rfl) (by cases hx3; rfl) (To.thenN (Wp.seq (Wp.seq (rg [0,1,5,6,7,8,92] [1005] [(0,rs45 v0),(1,vi v1),(5,.row 1005),(6,vi o2),(7,vb x3),(8,vi v8),(92,vb (decide (o2 > 20000)))] [(1005,40,[rc46 (v5 ++ (ex70 v0 v8))])] (To.thenN (cn h (fun h=>?_) (fun h=>?_))))))))
 ·refine Wp.seq (rg [4] [] [(4,vb false)] [] (To.thenN (Wp.ret (To.thenR (To.blockR ?_)))))
  cases h
  exact hQ
 ·refine Wp.skip (To.thenN (Wp.seq ?_))
  obtain ⟨hc5,h⟩:=chk_of h
  obtain ⟨hc6,h⟩:=chk_of h
  obtain ⟨hc7,h⟩:=chk_of h
  obtain ⟨hc8,h⟩:=chk_of h
  obtain ⟨x4,hx4,h⟩:=lett_of h
  refine r0 [0,1,5,6,7,8,115] [1005] [(0,rs45 v0),(1,vi v1),(5,.row 1005),(6,vi o2),(7,vb x3),(8,vi v8),(115,vb (bif ((Int.tmod ((ex42 v0 v8).f_Kind) 10) == 9) then (bif (decide (((ex42 v0 v8).f_N) > 30)) then true else (decide (((ex42 v0 v8).f_M) > 30))) else false))] [(1005,40,[rc46 (v5 ++ (ex70 v0 v8))])] (AllP.cons hc5 (AllP.cons hc6 (AllP.cons hc7 (AllP.cons hc8 AllP.nil)))) (To.eq (K':=[(0,rs45 v0),(1,vi v1),(5,.row 1005),(6,vi o2),(7,vb x3),(8,vi v8),(115,vb x4)]) (L':=[(1005,40,[rc46 (v5 ++ (ex70 v0 v8))])]) (by cases hx4; rfl) (by cases hx4; rfl) (To.thenN (cn h (fun h=>?_) (fun h=>?_))))
  ·refine Wp.seq (rg [4] [] [(4,vb false)] [] (To.thenN (Wp.ret (To.blockR ?_))))
   cases h
   exact hQ
  ·refine Wp.skip (To.blockN (kt [0,1,5,6,7,8] [1005] [(0,rs45 v0),(1,vi v1),(5,.row 1005),(6,vi o2),(7,vb x3),(8,vi v8)] [(1005,40,[rc46 (v5 ++ (ex70 v0 v8))])] ?_))
   cases h
   exact hQ
def law35_Few_l1 (n:Nat) (v0:List (S_law35_Deed)) (v1:Int):Nat → (List (S_api_Call)) → Int → Bool → Int → Option (Sum ((List (S_api_Call)) × Int × Bool) (Bool))
 | 0,_,_,_,_=>none
 | k + 1,v5,v6,v7,v8=>if (decide (v8 < (List.length v0:Int))) = true then ((law35_Few_j2 n v0 v1 v5 v6 v7 v8).bind fun o1 =>
 (Sum.elim (fun o1=>law35_Few_l1 n v0 v1 k o1.1 o1.2.1 o1.2.2 (IntKind.wrap .i64 (v8 + 1))) (fun o1=>some (.inr o1))) o1)
 else (some (.inl (v5,v6,v7)))
theorem ok_law35_Few_l1 (n:Nat) (v0:List (S_law35_Deed)) (v1:Int) {F0:Fz} {w0:Pt Tryz.prog} {Q:Exit → Act → World → Prop} (k:Nat):∀ (v5:List (S_api_Call)) (v6:Int) (v7:Bool) (v8:Int) (o:Sum ((List (S_api_Call)) × Int × Bool) (Bool)),law35_Few_l1 n v0 v1 k v5 v6 v7 v8 = some o → (Sum.elim (fun s=>To 134 F0 w0 [(0,rs45 v0),(1,vi v1),(5,.row 1005),(6,vi s.2.1),(7,vb s.2.2)] [(1005,40,[rc46 s.1])] (.exit 0) Q) (fun s=>To 134 F0 w0 [(4,vb s)] [] .ret Q)) o → WL Tryz.prog 134 F0 w0 [(0,rs45 v0),(1,vi v1),(5,.row 1005),(6,vi v6),(7,vb v7),(8,vi v8)] [(1005,40,[rc46 v5])] (cI (cI (cB (cA (cB (cB (cB (cB (cF Tryz.f35))))))))) Q:=by
 induction k with
 | zero=>intro v5 v6 v7 v8 o h; cases h
 | succ k ih =>
  intro v5 v6 v7 v8 o h hQ
  rw [law35_Few_l1] at h
  refine WL.round (Wp.seq (Wp.seq (rg [0,1,5,6,7,8,16] [1005] [(0,rs45 v0),(1,vi v1),(5,.row 1005),(6,vi v6),(7,vb v7),(8,vi v8),(16,vb (decide (v8 < (List.length v0:Int))))] [(1005,40,[rc46 v5])] (To.thenN (cn h (fun h=>?_) (fun h=>?_))))))
  ·refine Wp.skip (To.thenN (Wp.seq ?_))
   obtain ⟨o1,ho1,h⟩:=bind_of h
   refine kw [0,1,5,6,7,8] [1005] [(0,rs45 v0),(1,vi v1),(5,.row 1005),(6,vi v6),(7,vb v7),(8,vi v8)] [(1005,40,[rc46 v5])] (ok_law35_Few_j2 n v0 v1 v5 v6 v7 v8 o1 ho1 ?_)
   rcases o1 with o1 | o1
   ·replace h:=sum_l h
    refine To.thenN (rg [0,1,5,6,7,8] [1005] [(0,rs45 v0),(1,vi v1),(5,.row 1005),(6,vi o1.2.1),(7,vb o1.2.2),(ex4 v8)] [(1005,40,[rc46 o1.1])] (kt [0,1,5,6,7,8] [1005] [(0,rs45 v0),(1,vi v1),(5,.row 1005),(6,vi o1.2.1),(7,vb o1.2.2),(ex4 v8)] [(1005,40,[rc46 o1.1])] (To.again ?_)))
    exact ih o1.1 o1.2.1 o1.2.2 (IntKind.wrap .i64 (v8 + 1)) _ h hQ
   ·replace h:=sum_r h
    refine To.thenR (To.thenR (kt [4] [] [(4,vb o1)] [] ?_))
    cases h
    exact hQ
  ·refine Wp.exit (To.thenX (To.thenX (kt [0,1,5,6,7] [1005] [(0,rs45 v0),(1,vi v1),(5,.row 1005),(6,vi v6),(7,vb v7)] [(1005,40,[rc46 v5])] ?_)))
   cases h
   exact hQ
def law35_Few (n:Nat) (a0:List (S_law35_Deed)) (a1:Int):Option (Bool) :=
 if (decide ((List.length a0:Int) > a1)) = true then some false
 else ((law35_Few_l1 n a0 a1 n ([]:List (S_api_Call)) 0 false 0).bind fun o1 =>
 (Sum.elim (fun o1=>((if ((bif (!o1.2.2) then true else (decide (o1.2.1 ≤ 2000))) == true) = true then law33_Few n o1.1 a1 else some false)).bind fun r2 =>
 lett ((bif (bif (bif (!o1.2.2) then true else (decide (o1.2.1 ≤ 2000))) then r2 else false) then (decide ((IntKind.wrap .i64 (o1.2.1 * (List.length a0:Int))) < 400000)) else false):Bool) fun x3 =>
 some x3) (fun o1=>some o1)) o1)
theorem ok_law35_Few (n:Nat) (a0:List (S_law35_Deed)) (a1:Int) (r:Bool) (h:law35_Few n a0 a1 = some r):CallsX Tryz.prog 35 [rs45 a0,vi a1] (vb r):=by
 unfold law35_Few at h
 refine xo Tryz.f35 rfl fun F0 w0 _=>?_
 refine Wp.seq (rg [0,1] [] [(0,rs45 a0),(1,vi a1)] [] (To.thenN (Wp.seq (rg [0,1,5] [] [(0,rs45 a0),(1,vi a1),(5,.val (.slice none 0 0))] [] (To.thenN (Wp.seq (Wp.seq (rg [0,1,5,12] [] [(0,rs45 a0),(1,vi a1),(5,.val (.slice none 0 0)),(12,vb (decide ((List.length a0:Int) > a1)))] [] (To.thenN (cn h (fun h=>?_) (fun h=>?_)))))))))))
 ·refine Wp.seq (rg [4] [] [(4,vb false)] [] (To.thenN (Wp.ret (To.thenR ?_))))
  cases h
  exact To.done hΓ (by kernel_rfl)
 ·refine Wp.skip (To.thenN (Wp.seq (rg [0,1,5,6,7] [] [(0,rs45 a0),(1,vi a1),(5,.val (.slice none 0 0)),(6,vi 0),(7,vb false)] [] (To.thenN (Wp.seq (Wp.seq (rg [0,1,5,6,7,8] [] [(0,rs45 a0),(1,vi a1),(5,.val (.slice none 0 0)),(6,vi 0),(7,vb false),(8,vi 0)] [] (To.thenN (Wp.block ?_)))))))))
  obtain ⟨o1,ho1,h⟩:=bind_of h
  refine kw [0,1,5,6,7,8] [] [(0,rs45 a0),(1,vi a1),(5,.val (.slice none 0 0)),(6,vi 0),(7,vb false),(8,vi 0)] [] (Wp.pre (St.vacant (t:=5) (k:=1005) (e:=40) (K':=[(0,rs45 a0),(1,vi a1),(5,.row 1005),(6,vi 0),(7,vb false),(8,vi 0)]) (good_E_api_Call _) (by decide) (by kernel_rfl) (by kernel_rfl)) (kw [0,1,5,6,7,8] [1005] [(0,rs45 a0),(1,vi a1),(5,.row 1005),(6,vi 0),(7,vb false),(8,vi 0)] [(1005,40,[rc46 []])] (Wp.loopL (ok_law35_Few_l1 n a0 a1 n ([]:List (S_api_Call)) 0 false 0 o1 ho1 ?_))))
  rcases o1 with o1 | o1
  ·replace h:=sum_l h
   refine To.blockX (To.thenN (Wp.seq ?_))
   obtain ⟨r2,hr2,h⟩:=bind_of h
   obtain ⟨x3,hx3,h⟩:=lett_of h
   refine rr [(9,[1005])] [(9,vb r2)] [] [4] [] [(4,vb (bif (bif (bif (!o1.2.2) then true else (decide (o1.2.1 ≤ 2000))) then r2 else false) then (decide ((IntKind.wrap .i64 (o1.2.1 * (List.length a0:Int))) < 400000)) else false))] [] [(((bif (!o1.2.2) then true else (decide (o1.2.1 ≤ 2000))) == true) = true → CX Tryz.prog 9 [rs1 o1.1,vi a1] (vb r2))] (AllP.cons (fun hg=>cx (ok_law33_Few n o1.1 a1 _ (if_t hg hr2))) AllP.nil) (To.eq (K':=[(4,vb x3)]) (L':=[]) (by cases hx3; rfl) (by cases hx3; rfl) (To.thenN (Wp.ret ?_)))
   cases h
   exact To.done hΓ (by kernel_rfl)
  ·replace h:=sum_r h
   refine To.blockR (To.thenR ?_)
   cases h
   exact To.done hΓ (by kernel_rfl)
structure S_ref34_Plan where
 f_L:List (S_fault_Gap)
 f_More:Int
structure S_ref35_Host where
 f_S:S_ref33_Store
 f_Plan:S_ref34_Plan
 f_Now:Int
def E_ref35_Host:S_ref35_Host → List D:=fun x=>[.recs (α:=S_ref32_Box) Z_ref32_Box E_ref32_Box x.f_S.f_Boxes,.recs (α:=S_api_Kept) (S_api_Kept.mk [] []) E_api_Kept x.f_S.f_Nets,.recs (α:=S_api_Kept) (S_api_Kept.mk [] []) E_api_Kept x.f_S.f_Vols,.val (.int .i64 x.f_S.f_Last),.recs (α:=S_fault_Gap) (S_fault_Gap.mk 0 0) E_ref34_Gap x.f_Plan.f_L,.val (.int .i64 x.f_Plan.f_More),.val (.int .i64 x.f_Now)]
def E_ref35_Event:S_host_Event → List D:=fun x=>[.val (.int .i64 x.f_At),.val (.int .i64 x.f_Kind),.val (.int .i64 x.f_Id),.val (.int .i64 x.f_What)]
def ref30_Due (a0:S_api_Check) (a1:S_probe_State):Int :=
 if (bif (bif (!(ref30_Right a0)) then true else (decide (a1.f_Health < 1))) then true else (decide (a1.f_Health > 3))) = true then ((-1))
 else a1.f_Next
abbrev ex44 (x0:S_api_Check) (x1:S_probe_State):=(bif (bif (!(ref30_Right x0)) then true else (decide (x1.f_Health < 1))) then true else (decide (x1.f_Health > 3)))
theorem ok_ref30_Due (a0:S_api_Check) (a1:S_probe_State) (r:Int) (h:ref30_Due a0 a1 = r):CallsX Tryz.prog 132 [.agg (qc11 a0),.agg (qc12 a1)] (vi r):=by
 unfold ref30_Due at h
 refine xo Tryz.f132 rfl fun F0 w0 _=>?_
 refine Wp.seq (rg [2,3] [2,3] [(2,.own 2 0),(3,.own 3 0)] [(2,36,qc11 a0),(3,130,qc12 a1)] (To.thenN (Wp.seq (Wp.seq (rc [] 1 [3,17] [3] [(3,.own 3 0),(17,vb (ex44 a0 a1))] [(3,130,qc12 a1)] (ok_ref30_Right a0 _ rfl) (To.thenN (cn h (fun h=>?_) (fun h=>?_))))))))
 ·refine Wp.seq (rg [4] [] [(4,vi (-1))] [] (To.thenN (Wp.ret (To.thenR ?_))))
  cases h
  exact To.done hΓ (by kernel_rfl)
 ·refine Wp.skip (To.thenN (Wp.seq (rg [4] [] [(4,vi a1.f_Next)] [] (To.thenN (Wp.ret ?_)))))
  cases h
  exact To.done hΓ (by kernel_rfl)
def ref32_Next (a0:S_ref32_Box):Int :=
 if (a0.f_State == 2) = true then ((ref30_Due a0.f_Spec.f_Health a0.f_Probe))
 else (if (a0.f_State == 3) = true then a0.f_At
 else ((-1)))
theorem ok_ref32_Next (a0:S_ref32_Box) (r:Int) (h:ref32_Next a0 = r):CallsX Tryz.prog 107 [.agg (qc21 a0)] (vi r):=by
 unfold ref32_Next at h
 refine xo Tryz.f107 rfl fun F0 w0 _=>?_
 refine Wp.seq (rg [1] [1] [(1,.own 1 0)] [(1,132,(E_ref32_Box a0))] (To.thenN (Wp.seq (Wp.seq (rg [1,5] [1] [(1,.own 1 0),(5,vb (a0.f_State == 2))] [(1,132,(E_ref32_Box a0))] (To.thenN (cn h (fun h=>?_) (fun h=>?_))))))))
 ·refine Wp.seq (rc [] 5 [2] [] [(2,vi (ref30_Due a0.f_Spec.f_Health a0.f_Probe))] [] (ok_ref30_Due a0.f_Spec.f_Health a0.f_Probe _ rfl) (To.thenN (Wp.ret (To.thenR ?_))))
  cases h
  exact To.done hΓ (by kernel_rfl)
 ·refine Wp.skip (To.thenN (Wp.seq (Wp.seq (rg [1,14] [1] [(1,.own 1 0),(14,vb (a0.f_State == 3))] [(1,132,(E_ref32_Box a0))] (To.thenN (cn h (fun h=>?_) (fun h=>?_)))))))
  ·refine Wp.seq (rg [2] [] [(2,vi a0.f_At)] [] (To.thenN (Wp.ret (To.thenR ?_))))
   cases h
   exact To.done hΓ (by kernel_rfl)
  ·refine Wp.skip (To.thenN (Wp.seq (rg [2] [] [(2,vi (-1))] [] (To.thenN (Wp.ret ?_)))))
   cases h
   exact To.done hΓ (by kernel_rfl)
def ref35_first_j2 (n:Nat) (v1:Int) (v5:Int) (v6:Int) (b2:S_ref35_Host):Option (Int) :=
 if (decide (0 ≤ v6 ∧ v6 < (List.length b2.f_S.f_Boxes:Int))) = true then (lett (ref32_Next ((b2.f_S.f_Boxes)[Int.toNat v6]?.getD Z_ref32_Box)) fun r1 =>
 if (bif (decide (r1 < 0)) then true else (decide (r1 > v1))) = true then some v5
 else (if ((!((decide (v5 < 0)) == false) || decide (0 ≤ v5 ∧ v5 < (List.length b2.f_S.f_Boxes:Int)))) = true then (lett (ref32_Next ((b2.f_S.f_Boxes)[Int.toNat v5]?.getD Z_ref32_Box)) fun r2 =>
 if (bif (decide (v5 < 0)) then true else (decide (r1 < r2))) = true then some v6
 else some v5) else none)) else none
abbrev ex45 (x0:S_ref35_Host) (x1:Int):=((x0.f_S.f_Boxes)[Int.toNat x1]?.getD Z_ref32_Box)
abbrev ex46 (x0:S_ref35_Host):=(List.length x0.f_S.f_Boxes:Int)
theorem ok_ref35_first_j2 (n:Nat) (v1:Int) (v5:Int) (v6:Int) (b2:S_ref35_Host) (o:Int) (h:ref35_first_j2 n v1 v5 v6 b2 = some o) {F0:Fz} {w0:Pt Tryz.prog} {Q:Exit → Act → World → Prop} (hQ:To 45 F0 w0 [(1,vi v1),(2,.own 2 0),(5,vi o),(6,vi v6)] [(2,89,(E_ref35_Host b2))] .normal Q):Wp Tryz.prog 45 F0 w0 [(1,vi v1),(2,.own 2 0),(5,vi v5),(6,vi v6)] [(2,89,(E_ref35_Host b2))] (cA (cB (cI (cI (cB (cA (cB (cB (cF Tryz.f106))))))))) Q:=by
 unfold ref35_first_j2 at h
 refine Wp.block (Wp.seq ?_)
 obtain ⟨hc4,h⟩:=chk_of h
 obtain ⟨r1,hr1,h⟩:=lett_of h
 refine rr [] [(6,vi r1)] [] [1,2,5,6,7] [2] [(1,vi v1),(2,.own 2 0),(5,vi v5),(6,vi v6),(7,vi r1)] [(2,89,(E_ref35_Host b2))] [_,_] (AllP.cons hc4 (AllP.cons (c1 (ok_ref32_Next (ex45 b2 v6) _ hr1)) AllP.nil)) (To.thenN (Wp.seq (Wp.seq (rg [1,2,5,6,7,29] [2] [(1,vi v1),(2,.own 2 0),(5,vi v5),(6,vi v6),(7,vi r1),(29,vb (bif (decide (r1 < 0)) then true else (decide (r1 > v1))))] [(2,89,(E_ref35_Host b2))] (To.thenN (cn h (fun h=>?_) (fun h=>?_)))))))
 ·refine Wp.exit (To.thenX (To.blockX (kt [1,2,5,6] [2] [(1,vi v1),(2,.own 2 0),(5,vi v5),(6,vi v6)] [(2,89,(E_ref35_Host b2))] ?_)))
  cases h
  exact hQ
 ·refine Wp.skip (To.thenN (Wp.seq ?_))
  obtain ⟨hc3,h⟩:=chk_of h
  obtain ⟨r2,hr2,h⟩:=lett_of h
  refine rr [] [(10,vi r2)] [] [1,2,5,6,42] [2] [(1,vi v1),(2,.own 2 0),(5,vi v5),(6,vi v6),(42,vb (bif (decide (v5 < 0)) then true else (decide (r1 < r2))))] [(2,89,(E_ref35_Host b2))] [_,(((decide (v5 < 0)) == false) = true → CX Tryz.prog 107 [.agg [.str ((ex45 b2 v5).f_Spec.f_Name),.str ((ex45 b2 v5).f_Spec.f_Project),.str ((ex45 b2 v5).f_Spec.f_Service),vi ((ex45 b2 v5).f_Spec.f_Number),.str ((ex45 b2 v5).f_Spec.f_Hash),ls ((ex45 b2 v5).f_Spec.f_Nets),ls ((ex45 b2 v5).f_Spec.f_Vols),.str ((ex45 b2 v5).f_Spec.f_Health.f_Test),vi ((ex45 b2 v5).f_Spec.f_Health.f_Every),vi ((ex45 b2 v5).f_Spec.f_Health.f_Start),vi ((ex45 b2 v5).f_Spec.f_Health.f_Retries),vi ((ex45 b2 v5).f_Spec.f_Restart),vi ((ex45 b2 v5).f_Spec.f_Tries),vi ((ex45 b2 v5).f_Id),vi ((ex45 b2 v5).f_State),vi ((ex45 b2 v5).f_Code),vi ((ex45 b2 v5).f_Runs),vi ((ex45 b2 v5).f_Done),vi ((ex45 b2 v5).f_At),vb ((ex45 b2 v5).f_ByHand),vb ((ex45 b2 v5).f_Sick),vi ((ex45 b2 v5).f_Probe.f_Health),vi ((ex45 b2 v5).f_Probe.f_Fails),vi ((ex45 b2 v5).f_Probe.f_Began),vi ((ex45 b2 v5).f_Probe.f_Next)]] (vi r2))] (AllP.cons hc3 (AllP.cons (fun _=>cx (ok_ref32_Next (ex45 b2 v5) _ hr2)) AllP.nil)) (To.thenN (cn h (fun h=>?_) (fun h=>?_)))
  ·refine rg [1,2,5,6] [2] [(1,vi v1),(2,.own 2 0),(5,vi v6),(6,vi v6)] [(2,89,(E_ref35_Host b2))] (To.blockN ?_)
   cases h
   exact hQ
  ·refine Wp.skip (To.blockN (kt [1,2,5,6] [2] [(1,vi v1),(2,.own 2 0),(5,vi v5),(6,vi v6)] [(2,89,(E_ref35_Host b2))] ?_))
   cases h
   exact hQ
def ref35_first_l1 (n:Nat) (v1:Int) (b2:S_ref35_Host):Nat → Int → Int → Option (Int)
 | 0,_,_=>none
 | k + 1,v5,v6=>if (decide (v6 < (List.length b2.f_S.f_Boxes:Int))) = true then ((ref35_first_j2 n v1 v5 v6 b2).bind fun o1 =>
 ref35_first_l1 n v1 b2 k o1 (IntKind.wrap .i64 (v6 + 1)))
 else some v5
abbrev ex47 (x0:Int):Nat × D:=(6,vi (IntKind.wrap .i64 (x0 + 1)))
theorem ok_ref35_first_l1 (n:Nat) (v1:Int) (b2:S_ref35_Host) {F0:Fz} {w0:Pt Tryz.prog} {Q:Exit → Act → World → Prop} (k:Nat):∀ (v5:Int) (v6:Int) (o:Int),ref35_first_l1 n v1 b2 k v5 v6 = some o → To 45 F0 w0 [(5,vi o)] [] (.exit 0) Q → WL Tryz.prog 45 F0 w0 [(1,vi v1),(2,.own 2 0),(5,vi v5),(6,vi v6)] [(2,89,(E_ref35_Host b2))] (cI (cI (cB (cA (cB (cB (cF Tryz.f106))))))) Q:=by
 induction k with
 | zero=>intro v5 v6 o h; cases h
 | succ k ih =>
  intro v5 v6 o h hQ
  rw [ref35_first_l1] at h
  refine WL.round (Wp.seq (Wp.seq (rg [1,2,5,6,13] [2] [(1,vi v1),(2,.own 2 0),(5,vi v5),(6,vi v6),(13,vb (decide (v6 < (ex46 b2))))] [(2,89,(E_ref35_Host b2))] (To.thenN (cn h (fun h=>?_) (fun h=>?_))))))
  ·refine Wp.skip (To.thenN (Wp.seq ?_))
   obtain ⟨o1,ho1,h⟩:=bind_of h
   refine kw [1,2,5,6] [2] [(1,vi v1),(2,.own 2 0),(5,vi v5),(6,vi v6)] [(2,89,(E_ref35_Host b2))] (ok_ref35_first_j2 n v1 v5 v6 b2 o1 ho1 (To.thenN (rg [1,2,5,6] [2] [(1,vi v1),(2,.own 2 0),(5,vi o1),(ex47 v6)] [(2,89,(E_ref35_Host b2))] (kt [1,2,5,6] [2] [(1,vi v1),(2,.own 2 0),(5,vi o1),(ex47 v6)] [(2,89,(E_ref35_Host b2))] (To.again ?_)))))
   exact ih o1 (IntKind.wrap .i64 (v6 + 1)) _ h hQ
  ·refine Wp.exit (To.thenX (To.thenX (kt [5] [] [(5,vi v5)] [] ?_)))
   cases h
   exact hQ
def ref35_first (n:Nat) (a0:S_ref35_Host) (a1:Int):Option (Int) :=
 (ref35_first_l1 n a1 a0 n (-1) 0).bind fun o1 =>
 some o1
abbrev qc47 (x:S_ref35_Host):List D:=[rs19 x.f_S.f_Boxes,rs16 x.f_S.f_Nets,rs16 x.f_S.f_Vols,vi x.f_S.f_Last,rs32 x.f_Plan.f_L,vi x.f_Plan.f_More,vi x.f_Now]
theorem ok_ref35_first (n:Nat) (a0:S_ref35_Host) (a1:Int) (r:Int) (h:ref35_first n a0 a1 = some r):CallsX Tryz.prog 106 [.agg (qc47 a0),vi a1] (vi r):=by
 unfold ref35_first at h
 refine xo Tryz.f106 rfl fun F0 w0 _=>?_
 refine Wp.seq (rg [1,2] [2] [(1,vi a1),(2,.own 2 0)] [(2,89,(E_ref35_Host a0))] (To.thenN (Wp.seq (rg [1,2,5] [2] [(1,vi a1),(2,.own 2 0),(5,vi (-1))] [(2,89,(E_ref35_Host a0))] (To.thenN (Wp.seq (Wp.seq (rg [1,2,5,6] [2] [(1,vi a1),(2,.own 2 0),(5,vi (-1)),(6,vi 0)] [(2,89,(E_ref35_Host a0))] (To.thenN (Wp.block ?_))))))))))
 obtain ⟨o1,ho1,h⟩:=bind_of h
 refine kw [1,2,5,6] [2] [(1,vi a1),(2,.own 2 0),(5,vi (-1)),(6,vi 0)] [(2,89,(E_ref35_Host a0))] (Wp.loopL (ok_ref35_first_l1 n a1 a0 n (-1) 0 o1 ho1 (To.blockX (To.thenN (Wp.seq (rg [4] [] [(4,vi o1)] [] (To.thenN (Wp.ret ?_))))))))
 cases h
 exact To.done hΓ (by kernel_rfl)
def ref30_Ask_j1 (v70:Bool) (b4:S_api_Check) (b8:S_probe_State) (b10:S_probe_State):S_probe_State :=
 if v70 = true then ((S_probe_State.mk 3 b4.f_Retries b10.f_Began b10.f_Next))
 else b10
theorem ok_ref30_Ask_j1 (v70:Bool) (b4:S_api_Check) (b8:S_probe_State) (b10:S_probe_State) (o:S_probe_State) (h:ref30_Ask_j1 v70 b4 b8 b10 = o) {F0:Fz} {w0:Pt Tryz.prog} {Q:Exit → Act → World → Prop} (hQ:To 76 F0 w0 [(8,.own 8 0),(10,.own 10 0)] [(8,130,qc12 b8),(10,130,qc12 o)] .normal Q):Wp Tryz.prog 76 F0 w0 [(4,.own 4 0),(8,.own 8 0),(10,.own 10 0),(70,vb v70)] [(4,36,qc11 b4),(8,130,qc12 b8),(10,130,qc12 b10)] (cB (cA (cB (cB (cB (cB (cB (cB (cF Tryz.f133))))))))) Q:=by
 unfold ref30_Ask_j1 at h
 refine cn h (fun h=>?_) (fun h=>?_)
 ·refine Wp.seq (rg [8,10] [8,10] [(8,.own 8 0),(10,.own 10 0)] [(8,130,qc12 b8),(10,130,[vi b10.f_Health,vi b4.f_Retries,vi b10.f_Began,vi b10.f_Next])] (To.thenN (rg [8,10] [8,10] [(8,.own 8 0),(10,.own 10 0)] [(8,130,qc12 b8),(10,130,[vi 3,vi b4.f_Retries,vi b10.f_Began,vi b10.f_Next])] (kt [8,10] [8,10] [(8,.own 8 0),(10,.own 10 0)] [(8,130,qc12 b8),(10,130,[vi 3,vi b4.f_Retries,vi b10.f_Began,vi b10.f_Next])] ?_))))
  cases h
  exact hQ
 ·refine Wp.skip (kt [8,10] [8,10] [(8,.own 8 0),(10,.own 10 0)] [(8,130,qc12 b8),(10,130,qc12 b10)] ?_)
  cases h
  exact hQ
def ref30_Ask (a0:S_api_Check) (a1:S_probe_State) (a2:Int) (a3:Bool):S_probe_State × Bool :=
 lett ((bif (bif (bif (!(ref30_Right a0)) then true else (decide (a1.f_Health < 1))) then true else (decide (a1.f_Health > 3))) then true else (decide (a2 < a1.f_Next))):Bool) fun x1 =>
 if x1 = true then ((a1,false))
 else (if (!a3) = true then (((S_probe_State.mk 2 0 a1.f_Began (IntKind.wrap .i64 (a1.f_Next + a0.f_Every))),true))
 else (if (bif (a1.f_Health == 1) then (decide ((IntKind.wrap .i64 (a1.f_Next - a1.f_Began)) < a0.f_Start)) else false) = true then (((S_probe_State.mk a1.f_Health a1.f_Fails a1.f_Began (IntKind.wrap .i64 (a1.f_Next + a0.f_Every))),true))
 else (lett (ref30_Ask_j1 (decide ((IntKind.wrap .i64 (a1.f_Fails + 1)) ≥ a0.f_Retries)) a0 (S_probe_State.mk 0 0 0 0) (S_probe_State.mk a1.f_Health (IntKind.wrap .i64 (a1.f_Fails + 1)) a1.f_Began (IntKind.wrap .i64 (a1.f_Next + a0.f_Every)))) fun o2 =>
 (o2,true))))
theorem ok_ref30_Ask (a0:S_api_Check) (a1:S_probe_State) (a2:Int) (a3:Bool) (r:S_probe_State × Bool) (h:ref30_Ask a0 a1 a2 a3 = r):CallsX Tryz.prog 133 [.agg (qc11 a0),.agg (qc12 a1),vi a2,vb a3] (.tup [.agg (qc12 r.1),vb r.2]):=by
 unfold ref30_Ask at h
 refine xo Tryz.f133 rfl fun F0 w0 _=>?_
 refine Wp.seq (rg [2,3,4,5,8] [4,5,8] [(2,vi a2),(3,vb a3),(4,.own 4 0),(5,.own 5 0),(8,.own 8 0)] [(4,36,qc11 a0),(5,130,qc12 a1),(8,130,[vi 0,vi 0,vi 0,vi 0])] (To.thenN (Wp.seq (Wp.seq ?_))))
 obtain ⟨x1,hx1,h⟩:=lett_of h
 refine rc [] 1 [3,4,5,8,29] [4,5,8] [(3,vb a3),(4,.own 4 0),(5,.own 5 0),(8,.own 8 0),(29,vb (bif (ex44 a0 a1) then true else (decide (a2 < a1.f_Next))))] [(4,36,qc11 a0),(5,130,qc12 a1),(8,130,[vi 0,vi 0,vi 0,vi 0])] (ok_ref30_Right a0 _ rfl) (To.eq (K':=[(3,vb a3),(4,.own 4 0),(5,.own 5 0),(8,.own 8 0),(29,vb x1)]) (L':=[(4,36,qc11 a0),(5,130,qc12 a1),(8,130,[vi 0,vi 0,vi 0,vi 0])]) (by cases hx1; rfl) (by cases hx1; rfl) (To.thenN (cn h (fun h=>?_) (fun h=>?_))))
 ·refine Wp.seq (rg [8,9] [8] [(8,.own 8 0),(9,vb false)] [(8,130,qc12 a1)] (To.thenN (Wp.ret (To.thenR ?_))))
  cases h
  exact To.done hΓ (by kernel_rfl)
 ·refine Wp.skip (To.thenN (Wp.seq (rg [3,4,5,8,10] [4,5,8,10] [(3,vb a3),(4,.own 4 0),(5,.own 5 0),(8,.own 8 0),(10,.own 10 0)] [(4,36,qc11 a0),(5,130,qc12 a1),(8,130,[vi 0,vi 0,vi 0,vi 0]),(10,130,[vi a1.f_Health,vi a1.f_Fails,vi a1.f_Began,vi (ex35 a1 a0)])] (To.thenN (Wp.seq (Wp.seq (rg [4,5,8,10,44] [4,5,8,10] [(4,.own 4 0),(5,.own 5 0),(8,.own 8 0),(10,.own 10 0),(44,vb (!a3))] [(4,36,qc11 a0),(5,130,qc12 a1),(8,130,[vi 0,vi 0,vi 0,vi 0]),(10,130,[vi a1.f_Health,vi a1.f_Fails,vi a1.f_Began,vi (ex35 a1 a0)])] (To.thenN (cn h (fun h=>?_) (fun h=>?_))))))))))
  ·refine Wp.seq (rg [8,10] [8,10] [(8,.own 8 0),(10,.own 10 0)] [(8,130,[vi 0,vi 0,vi 0,vi 0]),(10,130,[vi 2,vi a1.f_Fails,vi a1.f_Began,vi (ex35 a1 a0)])] (To.thenN (Wp.seq (rg [8,10] [8,10] [(8,.own 8 0),(10,.own 10 0)] [(8,130,[vi 0,vi 0,vi 0,vi 0]),(10,130,[vi 2,vi 0,vi a1.f_Began,vi (ex35 a1 a0)])] (To.thenN (Wp.seq (rg [8,9] [8] [(8,.own 8 0),(9,vb true)] [(8,130,[vi 2,vi 0,vi a1.f_Began,vi (ex35 a1 a0)])] (To.thenN (Wp.ret (To.thenR ?_))))))))))
   cases h
   exact To.done hΓ (by kernel_rfl)
  ·refine Wp.skip (To.thenN (Wp.seq (Wp.seq (rg [4,5,8,10,60] [4,5,8,10] [(4,.own 4 0),(5,.own 5 0),(8,.own 8 0),(10,.own 10 0),(60,vb (bif (a1.f_Health == 1) then (decide ((IntKind.wrap .i64 (a1.f_Next - a1.f_Began)) < a0.f_Start)) else false))] [(4,36,qc11 a0),(5,130,qc12 a1),(8,130,[vi 0,vi 0,vi 0,vi 0]),(10,130,[vi a1.f_Health,vi a1.f_Fails,vi a1.f_Began,vi (ex35 a1 a0)])] (To.thenN (cn h (fun h=>?_) (fun h=>?_)))))))
   ·refine Wp.seq (rg [8,9] [8] [(8,.own 8 0),(9,vb true)] [(8,130,[vi a1.f_Health,vi a1.f_Fails,vi a1.f_Began,vi (ex35 a1 a0)])] (To.thenN (Wp.ret (To.thenR ?_))))
    cases h
    exact To.done hΓ (by kernel_rfl)
   ·refine Wp.skip (To.thenN (Wp.seq (rg [4,8,10] [4,8,10] [(4,.own 4 0),(8,.own 8 0),(10,.own 10 0)] [(4,36,qc11 a0),(8,130,[vi 0,vi 0,vi 0,vi 0]),(10,130,[vi a1.f_Health,vi (ex34 a1),vi a1.f_Began,vi (ex35 a1 a0)])] (To.thenN (Wp.seq (Wp.seq (rg [4,8,10,70] [4,8,10] [(4,.own 4 0),(8,.own 8 0),(10,.own 10 0),(70,vb (decide ((ex34 a1) ≥ a0.f_Retries)))] [(4,36,qc11 a0),(8,130,[vi 0,vi 0,vi 0,vi 0]),(10,130,[vi a1.f_Health,vi (ex34 a1),vi a1.f_Began,vi (ex35 a1 a0)])] (To.thenN ?_))))))))
    obtain ⟨o2,ho2,h⟩:=lett_of h
    refine kw [4,8,10,70] [4,8,10] [(4,.own 4 0),(8,.own 8 0),(10,.own 10 0),(70,vb (decide ((ex34 a1) ≥ a0.f_Retries)))] [(4,36,qc11 a0),(8,130,[vi 0,vi 0,vi 0,vi 0]),(10,130,[vi a1.f_Health,vi (ex34 a1),vi a1.f_Began,vi (ex35 a1 a0)])] (ok_ref30_Ask_j1 (decide ((ex34 a1) ≥ a0.f_Retries)) a0 zx14 (S_probe_State.mk a1.f_Health (ex34 a1) a1.f_Began (ex35 a1 a0)) o2 ho2 (To.thenN (Wp.seq (rg [8,9] [8] [(8,.own 8 0),(9,vb true)] [(8,130,qc12 o2)] (To.thenN (Wp.ret ?_))))))
    cases h
    exact To.done hΓ (by kernel_rfl)
def ref32_Tick (a0:S_ref32_Box) (a1:Int):S_ref32_Box × Int :=
 if (bif ((ref32_Next a0) == (-1)) then true else (decide ((ref32_Next a0) > a1))) = true then ((a0,0))
 else (if (a0.f_State == 2) = true then (lett (ref30_Ask a0.f_Spec.f_Health a0.f_Probe (ref32_Next a0) a0.f_Sick) fun r1 =>
 ((S_ref32_Box.mk a0.f_Spec a0.f_Id a0.f_State a0.f_Code a0.f_Runs a0.f_Done a0.f_At a0.f_ByHand a0.f_Sick r1.1),1))
 else (lett (ref30_Begin a0.f_Spec.f_Health (ref32_Next a0)) fun r2 =>
 ((S_ref32_Box.mk a0.f_Spec a0.f_Id 2 0 (IntKind.wrap .i64 (a0.f_Runs + 1)) (IntKind.wrap .i64 (a0.f_Done + 1)) (-1) a0.f_ByHand a0.f_Sick r2),2)))
abbrev ex48 (x0:S_ref32_Box):=(List.set (List.set (List.set (E_ref32_Box x0) 14 (vi 2)) 15 (vi 0)) 16 (vi (IntKind.wrap .i64 (x0.f_Runs + 1))))
abbrev ex49 (x0:S_ref32_Box):=(IntKind.wrap .i64 (x0.f_Done + 1))
theorem ok_ref32_Tick (a0:S_ref32_Box) (a1:Int) (r:S_ref32_Box × Int) (h:ref32_Tick a0 a1 = r):CallsX Tryz.prog 108 [.agg (qc21 a0),vi a1] (.tup [.agg (qc21 r.1),vi r.2]):=by
 unfold ref32_Tick at h
 refine xo Tryz.f108 rfl fun F0 w0 _=>?_
 refine Wp.seq (rg [1,2,4] [2,4] [(1,vi a1),(2,.own 2 0),(4,.own 4 0)] [(2,132,(E_ref32_Box a0)),(4,132,[.str [],.str [],.str [],vi 0,.str [],.val (.slice none 0 0),.val (.slice none 0 0),.str [],vi 0,vi 0,vi 0,vi 0,vi 0,vi 0,vi 0,vi 0,vi 0,vi 0,vi 0,vb false,vb false,vi 0,vi 0,vi 0,vi 0])] (To.thenN (Wp.seq (rc [] 1 [1,2,4,6] [2,4] [(1,vi a1),(2,.own 2 0),(4,.own 4 0),(6,vi (ref32_Next a0))] [(2,132,(E_ref32_Box a0)),(4,132,[.str [],.str [],.str [],vi 0,.str [],.val (.slice none 0 0),.val (.slice none 0 0),.str [],vi 0,vi 0,vi 0,vi 0,vi 0,vi 0,vi 0,vi 0,vi 0,vi 0,vi 0,vb false,vb false,vi 0,vi 0,vi 0,vi 0])] (ok_ref32_Next a0 _ rfl) (To.thenN (Wp.seq (Wp.seq (rg [2,4,6,17] [2,4] [(2,.own 2 0),(4,.own 4 0),(6,vi (ref32_Next a0)),(17,vb (bif ((ref32_Next a0) == (-1)) then true else (decide ((ref32_Next a0) > a1))))] [(2,132,(E_ref32_Box a0)),(4,132,[.str [],.str [],.str [],vi 0,.str [],.val (.slice none 0 0),.val (.slice none 0 0),.str [],vi 0,vi 0,vi 0,vi 0,vi 0,vi 0,vi 0,vi 0,vi 0,vi 0,vi 0,vb false,vb false,vi 0,vi 0,vi 0,vi 0])] (To.thenN (cn h (fun h=>?_) (fun h=>?_)))))))))))
 ·refine Wp.seq (rg [4,5] [4] [(4,.own 4 0),(5,vi 0)] [(4,132,(E_ref32_Box a0))] (To.thenN (Wp.ret (To.thenR ?_))))
  cases h
  exact To.done hΓ (by kernel_rfl)
 ·refine Wp.skip (To.thenN (Wp.seq (Wp.seq (rg [2,4,6,21] [2,4] [(2,.own 2 0),(4,.own 4 0),(6,vi (ref32_Next a0)),(21,vb (a0.f_State == 2))] [(2,132,(E_ref32_Box a0)),(4,132,[.str [],.str [],.str [],vi 0,.str [],.val (.slice none 0 0),.val (.slice none 0 0),.str [],vi 0,vi 0,vi 0,vi 0,vi 0,vi 0,vi 0,vi 0,vi 0,vi 0,vi 0,vb false,vb false,vi 0,vi 0,vi 0,vi 0])] (To.thenN (cn h (fun h=>?_) (fun h=>?_)))))))
  ·refine Wp.seq ?_
   obtain ⟨r1,hr1,h⟩:=lett_of h
   refine rc [] 8 [2,4,7] [2,4,7] [(2,.own 2 0),(4,.own 4 0),(7,.own 7 0)] [(2,132,(E_ref32_Box a0)),(4,132,[.str [],.str [],.str [],vi 0,.str [],.val (.slice none 0 0),.val (.slice none 0 0),.str [],vi 0,vi 0,vi 0,vi 0,vi 0,vi 0,vi 0,vi 0,vi 0,vi 0,vi 0,vb false,vb false,vi 0,vi 0,vi 0,vi 0]),(7,130,qc12 r1.1)] (ok_ref30_Ask a0.f_Spec.f_Health a0.f_Probe (ref32_Next a0) a0.f_Sick _ hr1) (To.thenN (Wp.seq (rg [2,4] [2,4] [(2,.own 2 0),(4,.own 4 0)] [(2,132,(List.set (List.set (List.set (List.set (E_ref32_Box a0) 21 (vi r1.1.f_Health)) 22 (vi r1.1.f_Fails)) 23 (vi r1.1.f_Began)) 24 (vi r1.1.f_Next))),(4,132,[.str [],.str [],.str [],vi 0,.str [],.val (.slice none 0 0),.val (.slice none 0 0),.str [],vi 0,vi 0,vi 0,vi 0,vi 0,vi 0,vi 0,vi 0,vi 0,vi 0,vi 0,vb false,vb false,vi 0,vi 0,vi 0,vi 0])] (To.thenN (Wp.seq (rg [4,5] [4] [(4,.own 4 0),(5,vi 1)] [(4,132,(List.set (List.set (List.set (List.set (E_ref32_Box a0) 21 (vi r1.1.f_Health)) 22 (vi r1.1.f_Fails)) 23 (vi r1.1.f_Began)) 24 (vi r1.1.f_Next)))] (To.thenN (Wp.ret (To.thenR ?_)))))))))
   cases h
   exact To.done hΓ (by kernel_rfl)
  ·refine Wp.skip (To.thenN (Wp.seq (rg [2,4,6] [2,4] [(2,.own 2 0),(4,.own 4 0),(6,vi (ref32_Next a0))] [(2,132,(List.set (E_ref32_Box a0) 14 (vi 2))),(4,132,[.str [],.str [],.str [],vi 0,.str [],.val (.slice none 0 0),.val (.slice none 0 0),.str [],vi 0,vi 0,vi 0,vi 0,vi 0,vi 0,vi 0,vi 0,vi 0,vi 0,vi 0,vb false,vb false,vi 0,vi 0,vi 0,vi 0])] (To.thenN (Wp.seq (rg [2,4,6] [2,4] [(2,.own 2 0),(4,.own 4 0),(6,vi (ref32_Next a0))] [(2,132,(List.set (List.set (E_ref32_Box a0) 14 (vi 2)) 15 (vi 0))),(4,132,[.str [],.str [],.str [],vi 0,.str [],.val (.slice none 0 0),.val (.slice none 0 0),.str [],vi 0,vi 0,vi 0,vi 0,vi 0,vi 0,vi 0,vi 0,vi 0,vi 0,vi 0,vb false,vb false,vi 0,vi 0,vi 0,vi 0])] (To.thenN (Wp.seq (rg [2,4,6] [2,4] [(2,.own 2 0),(4,.own 4 0),(6,vi (ref32_Next a0))] [(2,132,(ex48 a0)),(4,132,[.str [],.str [],.str [],vi 0,.str [],.val (.slice none 0 0),.val (.slice none 0 0),.str [],vi 0,vi 0,vi 0,vi 0,vi 0,vi 0,vi 0,vi 0,vi 0,vi 0,vi 0,vb false,vb false,vi 0,vi 0,vi 0,vi 0])] (To.thenN (Wp.seq ?_)))))))))))
   refine rg [2,4,6] [2,4] [(2,.own 2 0),(4,.own 4 0),(6,vi (ref32_Next a0))] [(2,132,(List.set (ex48 a0) 17 (vi (ex49 a0)))),(4,132,[.str [],.str [],.str [],vi 0,.str [],.val (.slice none 0 0),.val (.slice none 0 0),.str [],vi 0,vi 0,vi 0,vi 0,vi 0,vi 0,vi 0,vi 0,vi 0,vi 0,vi 0,vb false,vb false,vi 0,vi 0,vi 0,vi 0])] (To.thenN (Wp.seq (rg [2,4,6] [2,4] [(2,.own 2 0),(4,.own 4 0),(6,vi (ref32_Next a0))] [(2,132,(List.set (List.set (ex48 a0) 17 (vi (ex49 a0))) 18 (vi (-1)))),(4,132,[.str [],.str [],.str [],vi 0,.str [],.val (.slice none 0 0),.val (.slice none 0 0),.str [],vi 0,vi 0,vi 0,vi 0,vi 0,vi 0,vi 0,vi 0,vi 0,vi 0,vi 0,vb false,vb false,vi 0,vi 0,vi 0,vi 0])] (To.thenN (Wp.seq ?_)))))
   obtain ⟨r2,hr2,h⟩:=lett_of h
   refine rc [] 4 [2,4] [2,4] [(2,.own 2 0),(4,.own 4 0)] [(2,132,[.str a0.f_Spec.f_Name,.str a0.f_Spec.f_Project,.str a0.f_Spec.f_Service,vi a0.f_Spec.f_Number,.str a0.f_Spec.f_Hash,ls a0.f_Spec.f_Nets,ls a0.f_Spec.f_Vols,.str a0.f_Spec.f_Health.f_Test,vi a0.f_Spec.f_Health.f_Every,vi a0.f_Spec.f_Health.f_Start,vi a0.f_Spec.f_Health.f_Retries,vi a0.f_Spec.f_Restart,vi a0.f_Spec.f_Tries,vi a0.f_Id,vi 2,vi 0,vi (IntKind.wrap .i64 (a0.f_Runs + 1)),vi (ex49 a0),vi (-1),vb a0.f_ByHand,vb a0.f_Sick,vi r2.f_Health,vi r2.f_Fails,vi r2.f_Began,vi r2.f_Next]),(4,132,[.str [],.str [],.str [],vi 0,.str [],.val (.slice none 0 0),.val (.slice none 0 0),.str [],vi 0,vi 0,vi 0,vi 0,vi 0,vi 0,vi 0,vi 0,vi 0,vi 0,vi 0,vb false,vb false,vi 0,vi 0,vi 0,vi 0])] (ok_ref30_Begin a0.f_Spec.f_Health (ref32_Next a0) _ hr2) (To.thenN (Wp.seq (rg [4,5] [4] [(4,.own 4 0),(5,vi 2)] [(4,132,[.str a0.f_Spec.f_Name,.str a0.f_Spec.f_Project,.str a0.f_Spec.f_Service,vi a0.f_Spec.f_Number,.str a0.f_Spec.f_Hash,ls a0.f_Spec.f_Nets,ls a0.f_Spec.f_Vols,.str a0.f_Spec.f_Health.f_Test,vi a0.f_Spec.f_Health.f_Every,vi a0.f_Spec.f_Health.f_Start,vi a0.f_Spec.f_Health.f_Retries,vi a0.f_Spec.f_Restart,vi a0.f_Spec.f_Tries,vi a0.f_Id,vi 2,vi 0,vi (IntKind.wrap .i64 (a0.f_Runs + 1)),vi (ex49 a0),vi (-1),vb a0.f_ByHand,vb a0.f_Sick,vi r2.f_Health,vi r2.f_Fails,vi r2.f_Began,vi r2.f_Next])] (To.thenN (Wp.ret ?_)))))
   cases h
   exact To.done hΓ (by kernel_rfl)
theorem good_E_ref35_Event (l:List (S_host_Event)):GoodR (.recs (S_host_Event.mk 0 0 0 0) E_ref35_Event l):=⟨Nat.le_of_ble_eq_true (by kernel_rfl),fun _=>⟨rfl,rfl⟩⟩
def ref35_Tick_j1 (n:Nat) (v1:Int) (v16:Bool) (b2:S_ref35_Host) (b4:S_ref35_Host):Option (Int) :=
 if v16 = true then some 0
 else some v1
theorem ok_ref35_Tick_j1 (n:Nat) (v1:Int) (v16:Bool) (b2:S_ref35_Host) (b4:S_ref35_Host) (o:Int) (h:ref35_Tick_j1 n v1 v16 b2 b4 = some o) {F0:Fz} {w0:Pt Tryz.prog} {Q:Exit → Act → World → Prop} (hQ:To 78 F0 w0 [(1,vi o),(2,.own 2 0),(4,.own 4 0)] [(2,89,(E_ref35_Host b2)),(4,89,(E_ref35_Host b4))] .normal Q):Wp Tryz.prog 78 F0 w0 [(1,vi v1),(2,.own 2 0),(4,.own 4 0),(16,vb v16)] [(2,89,(E_ref35_Host b2)),(4,89,(E_ref35_Host b4))] (cB (cA (cB (cF Tryz.f75)))) Q:=by
 unfold ref35_Tick_j1 at h
 refine cn h (fun h=>?_) (fun h=>?_)
 ·refine rg [1,2,4] [2,4] [(1,vi 0),(2,.own 2 0),(4,.own 4 0)] [(2,89,(E_ref35_Host b2)),(4,89,(E_ref35_Host b4))] (kt [1,2,4] [2,4] [(1,vi 0),(2,.own 2 0),(4,.own 4 0)] [(2,89,(E_ref35_Host b2)),(4,89,(E_ref35_Host b4))] ?_)
  cases h
  exact hQ
 ·refine Wp.skip (kt [1,2,4] [2,4] [(1,vi v1),(2,.own 2 0),(4,.own 4 0)] [(2,89,(E_ref35_Host b2)),(4,89,(E_ref35_Host b4))] ?_)
  cases h
  exact hQ
def ref35_Tick_j2 (n:Nat) (v1:Int) (v18:Bool) (b2:S_ref35_Host) (b4:S_ref35_Host):Option (Int) :=
 if v18 = true then some 10000
 else some v1
theorem ok_ref35_Tick_j2 (n:Nat) (v1:Int) (v18:Bool) (b2:S_ref35_Host) (b4:S_ref35_Host) (o:Int) (h:ref35_Tick_j2 n v1 v18 b2 b4 = some o) {F0:Fz} {w0:Pt Tryz.prog} {Q:Exit → Act → World → Prop} (hQ:To 78 F0 w0 [(1,vi o),(2,.own 2 0),(4,.own 4 0)] [(2,89,(E_ref35_Host b2)),(4,89,(E_ref35_Host b4))] .normal Q):Wp Tryz.prog 78 F0 w0 [(1,vi v1),(2,.own 2 0),(4,.own 4 0),(18,vb v18)] [(2,89,(E_ref35_Host b2)),(4,89,(E_ref35_Host b4))] (cB (cA (cB (cB (cF Tryz.f75))))) Q:=by
 unfold ref35_Tick_j2 at h
 refine cn h (fun h=>?_) (fun h=>?_)
 ·refine rg [1,2,4] [2,4] [(1,vi 10000),(2,.own 2 0),(4,.own 4 0)] [(2,89,(E_ref35_Host b2)),(4,89,(E_ref35_Host b4))] (kt [1,2,4] [2,4] [(1,vi 10000),(2,.own 2 0),(4,.own 4 0)] [(2,89,(E_ref35_Host b2)),(4,89,(E_ref35_Host b4))] ?_)
  cases h
  exact hQ
 ·refine Wp.skip (kt [1,2,4] [2,4] [(1,vi v1),(2,.own 2 0),(4,.own 4 0)] [(2,89,(E_ref35_Host b2)),(4,89,(E_ref35_Host b4))] ?_)
  cases h
  exact hQ
def ref35_Tick_l3 (n:Nat) (v6:Int):Nat → (List (S_host_Event)) → S_ref35_Host → S_ref35_Host → Option ((List (S_host_Event)) × S_ref35_Host)
 | 0,_,_,_=>none
 | k + 1,v7,b2,b4=>(ref35_first n b2 v6).bind fun r3 =>
 if (decide (r3 < 0)) = true then (some (v7,(S_ref35_Host.mk b2.f_S b2.f_Plan v6)))
 else (if (decide (0 ≤ r3 ∧ r3 < (List.length b2.f_S.f_Boxes:Int))) = true then (lett (ref32_Next ((b2.f_S.f_Boxes)[Int.toNat r3]?.getD Z_ref32_Box)) fun r4 =>
 lett (ref32_Seen ((b2.f_S.f_Boxes)[Int.toNat r3]?.getD Z_ref32_Box)) fun r5 =>
 lett (ref32_Tick ((b2.f_S.f_Boxes)[Int.toNat r3]?.getD Z_ref32_Box) v6) fun r6 =>
 (ref33_Put n b2.f_S r6.1).bind fun r7 =>
 lett (ref32_Seen r6.1) fun r8 =>
 if (r6.2 == 2) = true then (if (decide ((List.length v7 + List.length ([(S_host_Event.mk r4 2 (((b2.f_S.f_Boxes)[Int.toNat r3]?.getD Z_ref32_Box).f_Id) 0)]:List (S_host_Event))) * (32 + 1) ≤ limit)) = true then (ref35_Tick_l3 n v6 k (v7 ++ ([(S_host_Event.mk r4 2 (((b2.f_S.f_Boxes)[Int.toNat r3]?.getD Z_ref32_Box).f_Id) 0)]:List (S_host_Event))) (S_ref35_Host.mk r7 b2.f_Plan b2.f_Now) b4) else none)
 else (if (r8.f_Health != r5.f_Health) = true then (if (decide ((List.length v7 + List.length ([(S_host_Event.mk r4 3 (((b2.f_S.f_Boxes)[Int.toNat r3]?.getD Z_ref32_Box).f_Id) r8.f_Health)]:List (S_host_Event))) * (32 + 1) ≤ limit)) = true then (lett ((v7 ++ ([(S_host_Event.mk r4 3 (((b2.f_S.f_Boxes)[Int.toNat r3]?.getD Z_ref32_Box).f_Id) r8.f_Health)]:List (S_host_Event))):List (S_host_Event)) fun x10 =>
 ref35_Tick_l3 n v6 k x10 (S_ref35_Host.mk r7 b2.f_Plan b2.f_Now) b4) else none)
 else (ref35_Tick_l3 n v6 k v7 (S_ref35_Host.mk r7 b2.f_Plan b2.f_Now) b4))) else none)
abbrev rc48 (l:List (S_host_Event)):D:=.rowc false (α:=S_host_Event) zx41 E_ref35_Event l
abbrev rs49 (l:List (S_host_Event)):D:=.recs (α:=S_host_Event) zx41 E_ref35_Event l
theorem ok_ref35_Tick_l3 (n:Nat) (v6:Int) {F0:Fz} {w0:Pt Tryz.prog} {Q:Exit → Act → World → Prop} (k:Nat):∀ (v7:List (S_host_Event)) (b2:S_ref35_Host) (b4:S_ref35_Host) (o:(List (S_host_Event)) × S_ref35_Host),ref35_Tick_l3 n v6 k v7 b2 b4 = some o → To 78 F0 w0 [(4,.own 4 0),(5,.row 1005)] [(4,89,qc47 o.2),(1005,84,[rc48 o.1])] .ret Q → WL Tryz.prog 78 F0 w0 [(2,.own 2 0),(4,.own 4 0),(6,vi v6),(7,.row 1007)] [(2,89,(E_ref35_Host b2)),(4,89,(E_ref35_Host b4)),(1007,84,[rc48 v7])] (cI (cI (cB (cB (cB (cB (cB (cF Tryz.f75)))))))) Q:=by
 induction k with
 | zero=>intro v7 b2 b4 o h; cases h
 | succ k ih =>
  intro v7 b2 b4 o h hQ
  rw [ref35_Tick_l3] at h
  refine WL.round (Wp.block (Wp.seq ?_))
  obtain ⟨r3,hr3,h⟩:=bind_of h
  refine rc [] 2 [2,4,6,7,8] [2,4,1007] [(2,.own 2 0),(4,.own 4 0),(6,vi v6),(7,.row 1007),(8,vi r3)] [(2,89,(E_ref35_Host b2)),(4,89,(E_ref35_Host b4)),(1007,84,[rc48 v7])] (ok_ref35_first n b2 v6 _ hr3) (To.thenN (Wp.seq (Wp.seq (rg [2,4,6,7,8,28] [2,4,1007] [(2,.own 2 0),(4,.own 4 0),(6,vi v6),(7,.row 1007),(8,vi r3),(28,vb (decide (r3 < 0)))] [(2,89,(E_ref35_Host b2)),(4,89,(E_ref35_Host b4)),(1007,84,[rc48 v7])] (To.thenN (cn h (fun h=>?_) (fun h=>?_)))))))
  ·refine Wp.seq (rg [2,4,7] [2,4,1007] [(2,.own 2 0),(4,.own 4 0),(7,.row 1007)] [(2,89,(List.set (E_ref35_Host b2) 6 (vi v6))),(4,89,(E_ref35_Host b4)),(1007,84,[rc48 v7])] (To.thenN (Wp.seq (rg [4,5] [4,1007] [(4,.own 4 0),(5,.row 1007)] [(4,89,(List.set (E_ref35_Host b2) 6 (vi v6))),(1007,84,[rc48 v7])] (To.thenN (Wp.ret (To.thenR (To.blockR (To.thenR (nt [4,5] [4,1007] [(1007,1005)] [4,5] [4,1005] [(4,.own 4 0),(5,.row 1005)] [(4,89,(List.set (E_ref35_Host b2) 6 (vi v6))),(1005,84,[rc48 v7])] ?_))))))))))
   cases h
   exact hQ
  ·refine Wp.skip (To.thenN (Wp.seq ?_))
   obtain ⟨hc12,h⟩:=chk_of h
   refine r0 [2,4,6,7,9] [2,4,9,1007] [(2,.own 2 0),(4,.own 4 0),(6,vi v6),(7,.row 1007),(9,.own 9 0)] [(2,89,(E_ref35_Host b2)),(4,89,(E_ref35_Host b4)),(9,132,(E_ref32_Box ((b2.f_S.f_Boxes)[Int.toNat r3]?.getD Z_ref32_Box))),(1007,84,[rc48 v7])] (AllP.cons hc12 AllP.nil) (To.thenN (Wp.seq ?_))
   obtain ⟨r4,hr4,h⟩:=lett_of h
   refine rc [] 1 [2,4,6,7,9,10] [2,4,9,1007] [(2,.own 2 0),(4,.own 4 0),(6,vi v6),(7,.row 1007),(9,.own 9 0),(10,vi r4)] [(2,89,(E_ref35_Host b2)),(4,89,(E_ref35_Host b4)),(9,132,(E_ref32_Box ((b2.f_S.f_Boxes)[Int.toNat r3]?.getD Z_ref32_Box))),(1007,84,[rc48 v7])] (ok_ref32_Next ((b2.f_S.f_Boxes)[Int.toNat r3]?.getD Z_ref32_Box) _ hr4) (To.thenN (Wp.seq ?_))
   obtain ⟨r5,hr5,h⟩:=lett_of h
   refine rc [] 1 [2,4,6,7,9,10,11] [2,4,9,1007] [(2,.own 2 0),(4,.own 4 0),(6,vi v6),(7,.row 1007),(9,.own 9 0),(10,vi r4),(11,vi r5.f_Health)] [(2,89,(E_ref35_Host b2)),(4,89,(E_ref35_Host b4)),(9,132,(E_ref32_Box ((b2.f_S.f_Boxes)[Int.toNat r3]?.getD Z_ref32_Box))),(1007,84,[rc48 v7])] (ok_ref32_Seen ((b2.f_S.f_Boxes)[Int.toNat r3]?.getD Z_ref32_Box) _ hr5) (To.thenN (Wp.seq ?_))
   obtain ⟨r6,hr6,h⟩:=lett_of h
   refine rc [] 2 [2,4,6,7,9,10,11,12,13] [2,4,9,12,1007] [(2,.own 2 0),(4,.own 4 0),(6,vi v6),(7,.row 1007),(9,.own 9 0),(10,vi r4),(11,vi r5.f_Health),(12,.own 12 0),(13,vi r6.2)] [(2,89,(E_ref35_Host b2)),(4,89,(E_ref35_Host b4)),(9,132,(E_ref32_Box ((b2.f_S.f_Boxes)[Int.toNat r3]?.getD Z_ref32_Box))),(12,132,(E_ref32_Box r6.1)),(1007,84,[rc48 v7])] (ok_ref32_Tick ((b2.f_S.f_Boxes)[Int.toNat r3]?.getD Z_ref32_Box) v6 _ hr6) (To.thenN (Wp.seq ?_))
   obtain ⟨r7,hr7,h⟩:=bind_of h
   refine rc [] 3 [2,4,6,7,9,10,11,12,13] [2,4,9,12,1007] [(2,.own 2 0),(4,.own 4 0),(6,vi v6),(7,.row 1007),(9,.own 9 0),(10,vi r4),(11,vi r5.f_Health),(12,.own 12 0),(13,vi r6.2)] [(2,89,[rs19 r7.f_Boxes,rs16 r7.f_Nets,rs16 r7.f_Vols,vi r7.f_Last,rs32 b2.f_Plan.f_L,vi b2.f_Plan.f_More,vi b2.f_Now]),(4,89,(E_ref35_Host b4)),(9,132,(E_ref32_Box ((b2.f_S.f_Boxes)[Int.toNat r3]?.getD Z_ref32_Box))),(12,132,(E_ref32_Box r6.1)),(1007,84,[rc48 v7])] (ok_ref33_Put n b2.f_S r6.1 _ hr7) (To.thenN (Wp.seq ?_))
   obtain ⟨r8,hr8,h⟩:=lett_of h
   refine rc [] 1 [2,4,6,7,9,10,11,13,14] [2,4,9,1007] [(2,.own 2 0),(4,.own 4 0),(6,vi v6),(7,.row 1007),(9,.own 9 0),(10,vi r4),(11,vi r5.f_Health),(13,vi r6.2),(14,vi r8.f_Health)] [(2,89,[rs19 r7.f_Boxes,rs16 r7.f_Nets,rs16 r7.f_Vols,vi r7.f_Last,rs32 b2.f_Plan.f_L,vi b2.f_Plan.f_More,vi b2.f_Now]),(4,89,(E_ref35_Host b4)),(9,132,(E_ref32_Box ((b2.f_S.f_Boxes)[Int.toNat r3]?.getD Z_ref32_Box))),(1007,84,[rc48 v7])] (ok_ref32_Seen r6.1 _ hr8) (To.thenN (Wp.seq (rg [2,4,6,7,9,10,11,14,59] [2,4,9,1007] [(2,.own 2 0),(4,.own 4 0),(6,vi v6),(7,.row 1007),(9,.own 9 0),(10,vi r4),(11,vi r5.f_Health),(14,vi r8.f_Health),(59,vb (r6.2 == 2))] [(2,89,[rs19 r7.f_Boxes,rs16 r7.f_Nets,rs16 r7.f_Vols,vi r7.f_Last,rs32 b2.f_Plan.f_L,vi b2.f_Plan.f_More,vi b2.f_Now]),(4,89,(E_ref35_Host b4)),(9,132,(E_ref32_Box ((b2.f_S.f_Boxes)[Int.toNat r3]?.getD Z_ref32_Box))),(1007,84,[rc48 v7])] (To.thenN (cn h (fun h=>?_) (fun h=>?_))))))
   ·obtain ⟨hc9,h⟩:=chk_of h
    refine rr [] [(5,rs49 ([(S_host_Event.mk r4 2 (((b2.f_S.f_Boxes)[Int.toNat r3]?.getD Z_ref32_Box).f_Id) 0)])),(6,rs49 (v7 ++ ([(S_host_Event.mk r4 2 (((b2.f_S.f_Boxes)[Int.toNat r3]?.getD Z_ref32_Box).f_Id) 0)]:List (S_host_Event))))] [] [2,4,6,7] [2,4,66] [(2,.own 2 0),(4,.own 4 0),(6,vi v6),(7,.row 66)] [(2,89,[rs19 r7.f_Boxes,rs16 r7.f_Nets,rs16 r7.f_Vols,vi r7.f_Last,rs32 b2.f_Plan.f_L,vi b2.f_Plan.f_More,vi b2.f_Now]),(4,89,(E_ref35_Host b4)),(66,84,[rc48 (v7 ++ ([(S_host_Event.mk r4 2 (((b2.f_S.f_Boxes)[Int.toNat r3]?.getD Z_ref32_Box).f_Id) 0)]:List (S_host_Event)))])] [(MkOb 4 [vi r4,vi 2,vi (((b2.f_S.f_Boxes)[Int.toNat r3]?.getD Z_ref32_Box).f_Id),vi 0] 1 (rs49 ([(S_host_Event.mk r4 2 (((b2.f_S.f_Boxes)[Int.toNat r3]?.getD Z_ref32_Box).f_Id) 0)])) ∧ GoodR (rs49 ([(S_host_Event.mk r4 2 (((b2.f_S.f_Boxes)[Int.toNat r3]?.getD Z_ref32_Box).f_Id) 0)]))),_,(AppOb zx41 E_ref35_Event v7 (List.flatMap E_ref35_Event ([(S_host_Event.mk r4 2 (((b2.f_S.f_Boxes)[Int.toNat r3]?.getD Z_ref32_Box).f_Id) 0)]:List (S_host_Event))) (List.length ([(S_host_Event.mk r4 2 (((b2.f_S.f_Boxes)[Int.toNat r3]?.getD Z_ref32_Box).f_Id) 0)]:List (S_host_Event))) (rs49 (v7 ++ ([(S_host_Event.mk r4 2 (((b2.f_S.f_Boxes)[Int.toNat r3]?.getD Z_ref32_Box).f_Id) 0)]:List (S_host_Event)))) ∧ GoodR (rs49 (v7 ++ ([(S_host_Event.mk r4 2 (((b2.f_S.f_Boxes)[Int.toNat r3]?.getD Z_ref32_Box).f_Id) 0)]:List (S_host_Event)))))] (AllP.cons (mkOb (by kernel_rfl) rfl (by kernel_rfl) (good_E_ref35_Event _)) (AllP.cons hc9 (AllP.cons (appOb rfl rfl (good_E_ref35_Event _)) AllP.nil))) (To.blockN (nt [2,4,6,7] [2,4,66] [(66,1007)] [2,4,6,7] [2,4,1007] [(2,.own 2 0),(4,.own 4 0),(6,vi v6),(7,.row 1007)] [(2,89,[rs19 r7.f_Boxes,rs16 r7.f_Nets,rs16 r7.f_Vols,vi r7.f_Last,rs32 b2.f_Plan.f_L,vi b2.f_Plan.f_More,vi b2.f_Now]),(4,89,(E_ref35_Host b4)),(1007,84,[rc48 (v7 ++ ([(S_host_Event.mk r4 2 (((b2.f_S.f_Boxes)[Int.toNat r3]?.getD Z_ref32_Box).f_Id) 0)]:List (S_host_Event)))])] (To.again ?_)))
    exact ih (v7 ++ ([(S_host_Event.mk r4 2 (((b2.f_S.f_Boxes)[Int.toNat r3]?.getD Z_ref32_Box).f_Id) 0)]:List (S_host_Event))) (S_ref35_Host.mk r7 b2.f_Plan b2.f_Now) b4 _ h hQ
   ·refine Wp.seq (rg [2,4,6,7,9,10,14,69] [2,4,9,1007] [(2,.own 2 0),(4,.own 4 0),(6,vi v6),(7,.row 1007),(9,.own 9 0),(10,vi r4),(14,vi r8.f_Health),(69,vb (r8.f_Health != r5.f_Health))] [(2,89,[rs19 r7.f_Boxes,rs16 r7.f_Nets,rs16 r7.f_Vols,vi r7.f_Last,rs32 b2.f_Plan.f_L,vi b2.f_Plan.f_More,vi b2.f_Now]),(4,89,(E_ref35_Host b4)),(9,132,(E_ref32_Box ((b2.f_S.f_Boxes)[Int.toNat r3]?.getD Z_ref32_Box))),(1007,84,[rc48 v7])] (To.thenN (cn h (fun h=>?_) (fun h=>?_))))
    ·obtain ⟨hc11,h⟩:=chk_of h
     obtain ⟨x10,hx10,h⟩:=lett_of h
     refine rr [] [(6,rs49 ([(S_host_Event.mk r4 3 (((b2.f_S.f_Boxes)[Int.toNat r3]?.getD Z_ref32_Box).f_Id) r8.f_Health)])),(7,rs49 (v7 ++ ([(S_host_Event.mk r4 3 (((b2.f_S.f_Boxes)[Int.toNat r3]?.getD Z_ref32_Box).f_Id) r8.f_Health)]:List (S_host_Event))))] [] [2,4,6,7] [2,4,77] [(2,.own 2 0),(4,.own 4 0),(6,vi v6),(7,.row 77)] [(2,89,[rs19 r7.f_Boxes,rs16 r7.f_Nets,rs16 r7.f_Vols,vi r7.f_Last,rs32 b2.f_Plan.f_L,vi b2.f_Plan.f_More,vi b2.f_Now]),(4,89,(E_ref35_Host b4)),(77,84,[rc48 (v7 ++ ([(S_host_Event.mk r4 3 (((b2.f_S.f_Boxes)[Int.toNat r3]?.getD Z_ref32_Box).f_Id) r8.f_Health)]:List (S_host_Event)))])] [(MkOb 4 [vi r4,vi 3,vi (((b2.f_S.f_Boxes)[Int.toNat r3]?.getD Z_ref32_Box).f_Id),vi r8.f_Health] 1 (rs49 ([(S_host_Event.mk r4 3 (((b2.f_S.f_Boxes)[Int.toNat r3]?.getD Z_ref32_Box).f_Id) r8.f_Health)])) ∧ GoodR (rs49 ([(S_host_Event.mk r4 3 (((b2.f_S.f_Boxes)[Int.toNat r3]?.getD Z_ref32_Box).f_Id) r8.f_Health)]))),_,(AppOb zx41 E_ref35_Event v7 (List.flatMap E_ref35_Event ([(S_host_Event.mk r4 3 (((b2.f_S.f_Boxes)[Int.toNat r3]?.getD Z_ref32_Box).f_Id) r8.f_Health)]:List (S_host_Event))) (List.length ([(S_host_Event.mk r4 3 (((b2.f_S.f_Boxes)[Int.toNat r3]?.getD Z_ref32_Box).f_Id) r8.f_Health)]:List (S_host_Event))) (rs49 (v7 ++ ([(S_host_Event.mk r4 3 (((b2.f_S.f_Boxes)[Int.toNat r3]?.getD Z_ref32_Box).f_Id) r8.f_Health)]:List (S_host_Event)))) ∧ GoodR (rs49 (v7 ++ ([(S_host_Event.mk r4 3 (((b2.f_S.f_Boxes)[Int.toNat r3]?.getD Z_ref32_Box).f_Id) r8.f_Health)]:List (S_host_Event)))))] (AllP.cons (mkOb (by kernel_rfl) rfl (by kernel_rfl) (good_E_ref35_Event _)) (AllP.cons hc11 (AllP.cons (appOb rfl rfl (good_E_ref35_Event _)) AllP.nil))) (To.eq (K':=[(2,.own 2 0),(4,.own 4 0),(6,vi v6),(7,.row 77)]) (L':=[(2,89,[rs19 r7.f_Boxes,rs16 r7.f_Nets,rs16 r7.f_Vols,vi r7.f_Last,rs32 b2.f_Plan.f_L,vi b2.f_Plan.f_More,vi b2.f_Now]),(4,89,(E_ref35_Host b4)),(77,84,[rc48 x10])]) (by cases hx10; rfl) (by cases hx10; rfl) (To.blockN (nt [2,4,6,7] [2,4,77] [(77,1007)] [2,4,6,7] [2,4,1007] [(2,.own 2 0),(4,.own 4 0),(6,vi v6),(7,.row 1007)] [(2,89,[rs19 r7.f_Boxes,rs16 r7.f_Nets,rs16 r7.f_Vols,vi r7.f_Last,rs32 b2.f_Plan.f_L,vi b2.f_Plan.f_More,vi b2.f_Now]),(4,89,(E_ref35_Host b4)),(1007,84,[rc48 x10])] (To.again ?_))))
     exact ih x10 (S_ref35_Host.mk r7 b2.f_Plan b2.f_Now) b4 _ h hQ
    ·refine Wp.skip (To.blockN (kt [2,4,6,7] [2,4,1007] [(2,.own 2 0),(4,.own 4 0),(6,vi v6),(7,.row 1007)] [(2,89,[rs19 r7.f_Boxes,rs16 r7.f_Nets,rs16 r7.f_Vols,vi r7.f_Last,rs32 b2.f_Plan.f_L,vi b2.f_Plan.f_More,vi b2.f_Now]),(4,89,(E_ref35_Host b4)),(1007,84,[rc48 v7])] (To.again ?_)))
     exact ih v7 (S_ref35_Host.mk r7 b2.f_Plan b2.f_Now) b4 _ h hQ
def ref35_Tick (n:Nat) (a0:S_ref35_Host) (a1:Int):Option (S_ref35_Host × (List (S_host_Event))) :=
 (ref35_Tick_j1 n a1 (decide (a1 < 0)) a0 (S_ref35_Host.mk (S_ref33_Store.mk [] [] [] 0) (S_ref34_Plan.mk [] 0) 0)).bind fun o1 =>
 (ref35_Tick_j2 n o1 (decide (o1 > 10000)) a0 (S_ref35_Host.mk (S_ref33_Store.mk [] [] [] 0) (S_ref34_Plan.mk [] 0) 0)).bind fun o2 =>
 (ref35_Tick_l3 n (IntKind.wrap .i64 (a0.f_Now + o2)) n ([]:List (S_host_Event)) a0 (S_ref35_Host.mk (S_ref33_Store.mk [] [] [] 0) (S_ref34_Plan.mk [] 0) 0)).bind fun o3 =>
 some (o3.2,o3.1)
abbrev zx50:S_ref34_Plan:=S_ref34_Plan.mk [] 0
abbrev rc51 (l:List (S_host_Event)):D:=.rowc true (α:=S_host_Event) zx41 E_ref35_Event l
theorem ok_ref35_Tick (n:Nat) (a0:S_ref35_Host) (a1:Int) (r:S_ref35_Host × (List (S_host_Event))) (h:ref35_Tick n a0 a1 = some r):CallsX Tryz.prog 75 [.agg (qc47 a0),vi a1] (.tup [.agg (qc47 r.1),rs49 r.2]):=by
 unfold ref35_Tick at h
 refine xo Tryz.f75 rfl fun F0 w0 _=>?_
 refine Wp.seq (rg [1,2,4] [2,4] [(1,vi a1),(2,.own 2 0),(4,.own 4 0)] [(2,89,(E_ref35_Host a0)),(4,89,[.val (.slice none 0 0),.val (.slice none 0 0),.val (.slice none 0 0),vi 0,.val (.slice none 0 0),vi 0,vi 0])] (To.thenN (Wp.seq (Wp.seq (rg [1,2,4,16] [2,4] [(1,vi a1),(2,.own 2 0),(4,.own 4 0),(16,vb (decide (a1 < 0)))] [(2,89,(E_ref35_Host a0)),(4,89,[.val (.slice none 0 0),.val (.slice none 0 0),.val (.slice none 0 0),vi 0,.val (.slice none 0 0),vi 0,vi 0])] (To.thenN ?_))))))
 obtain ⟨o1,ho1,h⟩:=bind_of h
 refine kw [1,2,4,16] [2,4] [(1,vi a1),(2,.own 2 0),(4,.own 4 0),(16,vb (decide (a1 < 0)))] [(2,89,(E_ref35_Host a0)),(4,89,[.val (.slice none 0 0),.val (.slice none 0 0),.val (.slice none 0 0),vi 0,.val (.slice none 0 0),vi 0,vi 0])] (Wp.weak (K':=[(1,vi a1),(2,.own 2 0),(4,.own 4 0),(16,vb (decide (a1 < 0)))]) (L':=[(2,89,(E_ref35_Host a0)),(4,89,[rs19 [],rs16 [],rs16 [],vi 0,rs32 [],vi 0,vi 0])]) (.cons (.refl _) (.cons (.refl _) (.cons (.refl _) (.cons (.refl _) .nil)))) (.cons (.cons (.refl _) (.cons (.refl _) (.cons (.refl _) (.cons (.refl _) (.cons (.refl _) (.cons (.refl _) (.cons (.refl _) .nil))))))) (.cons (.cons (.zero _ _) (.cons (.zero _ _) (.cons (.zero _ _) (.cons (.refl _) (.cons (.zero _ _) (.cons (.refl _) (.cons (.refl _) .nil))))))) .nil)) (ok_ref35_Tick_j1 n a1 (decide (a1 < 0)) a0 (S_ref35_Host.mk zx22 zx50 0) o1 ho1 (To.thenN (Wp.seq (Wp.seq (rg [1,2,4,18] [2,4] [(1,vi o1),(2,.own 2 0),(4,.own 4 0),(18,vb (decide (o1 > 10000)))] [(2,89,(E_ref35_Host a0)),(4,89,[rs19 [],rs16 [],rs16 [],vi 0,rs32 [],vi 0,vi 0])] (To.thenN ?_)))))))
 obtain ⟨o2,ho2,h⟩:=bind_of h
 refine kw [1,2,4,18] [2,4] [(1,vi o1),(2,.own 2 0),(4,.own 4 0),(18,vb (decide (o1 > 10000)))] [(2,89,(E_ref35_Host a0)),(4,89,[rs19 [],rs16 [],rs16 [],vi 0,rs32 [],vi 0,vi 0])] (ok_ref35_Tick_j2 n o1 (decide (o1 > 10000)) a0 (S_ref35_Host.mk zx22 zx50 0) o2 ho2 (To.thenN (Wp.seq (rg [2,4,6] [2,4] [(2,.own 2 0),(4,.own 4 0),(6,vi (IntKind.wrap .i64 (a0.f_Now + o2)))] [(2,89,(E_ref35_Host a0)),(4,89,[rs19 [],rs16 [],rs16 [],vi 0,rs32 [],vi 0,vi 0])] (To.thenN (Wp.seq (rr [] [(0,rs49 [])] [] [2,4,6,7] [2,4,23] [(2,.own 2 0),(4,.own 4 0),(6,vi (IntKind.wrap .i64 (a0.f_Now + o2))),(7,.row 23)] [(2,89,(E_ref35_Host a0)),(4,89,[rs19 [],rs16 [],rs16 [],vi 0,rs32 [],vi 0,vi 0]),(23,84,[rc48 []])] [(MkOb 4 [] 0 (rs49 []) ∧ GoodR (rs49 []))] (AllP.cons (mkOb (by kernel_rfl) rfl (by kernel_rfl) (good_E_ref35_Event _)) AllP.nil) (To.thenN (Wp.block ?_)))))))))
 obtain ⟨o3,ho3,h⟩:=bind_of h
 refine nw [2,4,6,7] [2,4,23] [(23,1007)] [2,4,6,7] [2,4,1007] [(2,.own 2 0),(4,.own 4 0),(6,vi (IntKind.wrap .i64 (a0.f_Now + o2))),(7,.row 1007)] [(2,89,(E_ref35_Host a0)),(4,89,[rs19 [],rs16 [],rs16 [],vi 0,rs32 [],vi 0,vi 0]),(1007,84,[rc48 []])] (Wp.loopL (ok_ref35_Tick_l3 n (IntKind.wrap .i64 (a0.f_Now + o2)) n ([]:List (S_host_Event)) a0 (S_ref35_Host.mk zx22 zx50 0) o3 ho3 (To.blockR (kt [4,5] [4,1005] [(4,.own 4 0),(5,.row 1005)] [(4,89,(E_ref35_Host o3.2)),(1005,84,[rc48 o3.1])] (To.pre (St.settle (ks:=[1005]) (kk:=[4,5]) (kl:=[4,1005]) (K':=[(4,.own 4 0),(5,.row 1005)]) (L':=[(4,89,(E_ref35_Host o3.2)),(1005,84,[rc51 o3.1])]) (by kernel_rfl)) (To.pre (St.sealK [5] (K':=[(4,.own 4 0),(5,rs49 o3.1)]) (by kernel_rfl)) ?_))))))
 cases h
 exact To.done hΓ (by kernel_rfl)
def law35_Events_l1 (n:Nat) (v0:List (S_host_Event)):Nat → (List (S_host_Event)) → Int → Option ((List (S_host_Event)))
 | 0,_,_=>none
 | k + 1,v3,v4=>if (decide (v4 < (List.length v0:Int))) = true then (if (decide (0 ≤ v4 ∧ v4 < (List.length v0:Int))) = true then (if (decide ((List.length v3 + List.length ([((v0)[Int.toNat v4]?.getD (S_host_Event.mk 0 0 0 0))]:List (S_host_Event))) * (32 + 1) ≤ limit)) = true then (law35_Events_l1 n v0 k (v3 ++ ([((v0)[Int.toNat v4]?.getD (S_host_Event.mk 0 0 0 0))]:List (S_host_Event))) (IntKind.wrap .i64 (v4 + 1))) else none) else none)
 else some v3
abbrev ex50 (x0:List (S_host_Event)) (x1:Int):=((x0)[Int.toNat x1]?.getD zx41)
abbrev ex51 (x0:Int) (x1:List (S_host_Event)):=(0 ≤ x0 ∧ x0 < (List.length x1:Int))
abbrev ex52 (x0:Int) (x1:List (S_host_Event)):=(decide (x0 < (List.length x1:Int)))
abbrev ex73 (x0:List (S_host_Event)) (x1:Int):=([(ex50 x0 x1)]:List (S_host_Event))
theorem ok_law35_Events_l1 (n:Nat) (v0:List (S_host_Event)) {F0:Fz} {w0:Pt Tryz.prog} {Q:Exit → Act → World → Prop} (k:Nat):∀ (v3:List (S_host_Event)) (v4:Int) (o:(List (S_host_Event))),law35_Events_l1 n v0 k v3 v4 = some o → To 19 F0 w0 [(3,.row 1003)] [(1003,84,[rc48 o])] (.exit 0) Q → WL Tryz.prog 19 F0 w0 [(0,rs43 v0),(3,.row 1003),(4,vi v4)] [(1003,84,[rc48 v3])] (cI (cI (cB (cA (cB (cB (cF Tryz.f37))))))) Q:=by
 induction k with
 | zero=>intro v3 v4 o h; cases h
 | succ k ih =>
  intro v3 v4 o h hQ
  rw [law35_Events_l1] at h
  refine WL.round (Wp.seq (Wp.seq (rg [0,3,4,8] [1003] [(0,rs43 v0),(3,.row 1003),(4,vi v4),(8,vb (ex52 v4 v0))] [(1003,84,[rc48 v3])] (To.thenN (cn h (fun h=>?_) (fun h=>?_))))))
  ·refine Wp.skip (To.thenN (Wp.seq (Wp.block ?_)))
   obtain ⟨hc1,h⟩:=chk_of h
   obtain ⟨hc2,h⟩:=chk_of h
   refine rr [] [(5,rs49 ([(ex50 v0 v4)])),(6,rs49 (v3 ++ (ex73 v0 v4)))] [] [0,3,4] [17] [(0,rs43 v0),(3,.row 17),(4,vi v4)] [(17,84,[rc48 (v3 ++ (ex73 v0 v4))])] [_,(MkOb 4 [vi ((ex50 v0 v4).f_At),vi ((ex50 v0 v4).f_Kind),vi ((ex50 v0 v4).f_Id),vi ((ex50 v0 v4).f_What)] 1 (rs49 ([(ex50 v0 v4)])) ∧ GoodR (rs49 ([(ex50 v0 v4)]))),_,(AppOb zx41 E_ref35_Event v3 (List.flatMap E_ref35_Event (ex73 v0 v4)) (List.length (ex73 v0 v4)) (rs49 (v3 ++ (ex73 v0 v4))) ∧ GoodR (rs49 (v3 ++ (ex73 v0 v4))))] (AllP.cons hc1 (AllP.cons (mkOb (by kernel_rfl) rfl (by kernel_rfl) (good_E_ref35_Event _)) (AllP.cons hc2 (AllP.cons (appOb rfl rfl (good_E_ref35_Event _)) AllP.nil)))) (To.blockN (To.thenN (rg [0,3,4] [17] [(0,rs43 v0),(3,.row 17),(ex41 v4)] [(17,84,[rc48 (v3 ++ (ex73 v0 v4))])] (nt [0,3,4] [17] [(17,1003)] [0,3,4] [1003] [(0,rs43 v0),(3,.row 1003),(ex41 v4)] [(1003,84,[rc48 (v3 ++ (ex73 v0 v4))])] (To.again ?_)))))
   exact ih (v3 ++ (ex73 v0 v4)) (IntKind.wrap .i64 (v4 + 1)) _ h hQ
  ·refine Wp.exit (To.thenX (To.thenX (kt [3] [1003] [(3,.row 1003)] [(1003,84,[rc48 v3])] ?_)))
   cases h
   exact hQ
def law35_Events (n:Nat) (a0:List (S_host_Event)):Option ((List (S_host_Event))) :=
 (law35_Events_l1 n a0 n ([]:List (S_host_Event)) 0).bind fun o1 =>
 some o1
theorem ok_law35_Events (n:Nat) (a0:List (S_host_Event)) (r:(List (S_host_Event))) (h:law35_Events n a0 = some r):CallsX Tryz.prog 37 [rs43 a0] (rs49 r):=by
 unfold law35_Events at h
 refine xo Tryz.f37 rfl fun F0 w0 _=>?_
 refine Wp.seq (rg [0] [] [(0,rs43 a0)] [] (To.thenN (Wp.seq (rg [0,3] [] [(0,rs43 a0),(3,.val (.slice none 0 0))] [] (To.thenN (Wp.seq (Wp.seq (rg [0,3,4] [] [(0,rs43 a0),(3,.val (.slice none 0 0)),(4,vi 0)] [] (To.thenN (Wp.block ?_))))))))))
 obtain ⟨o1,ho1,h⟩:=bind_of h
 refine kw [0,3,4] [] [(0,rs43 a0),(3,.val (.slice none 0 0)),(4,vi 0)] [] (Wp.pre (St.vacant (t:=3) (k:=1003) (e:=84) (K':=[(0,rs43 a0),(3,.row 1003),(4,vi 0)]) (good_E_ref35_Event _) (by decide) (by kernel_rfl) (by kernel_rfl)) (kw [0,3,4] [1003] [(0,rs43 a0),(3,.row 1003),(4,vi 0)] [(1003,84,[rc48 []])] (Wp.loopL (ok_law35_Events_l1 n a0 n ([]:List (S_host_Event)) 0 o1 ho1 (To.blockX (To.thenN (Wp.seq (rg [2] [1003] [(2,.row 1003)] [(1003,84,[rc48 o1])] (To.thenN (Wp.ret ?_))))))))))
 refine To.pre (St.settle (ks:=[1003]) (kk:=[2]) (kl:=[1003]) (K':=[(2,.row 1003)]) (L':=[(1003,84,[rc51 o1])]) (by kernel_rfl)) (To.pre (St.sealK [2] (K':=[(2,rs49 o1)]) (by kernel_rfl)) ?_)
 cases h
 exact To.done hΓ (by kernel_rfl)
def ref35_Same_l1 (n:Nat) (v0:List (S_host_Event)) (v1:List (S_host_Event)):Nat → Int → Option (Sum (Unit) (Bool))
 | 0,_=>none
 | k + 1,v5=>if (decide (v5 < (List.length v0:Int))) = true then (if (decide (0 ≤ v5 ∧ v5 < (List.length v0:Int))) = true then (if (decide (0 ≤ v5 ∧ v5 < (List.length v1:Int))) = true then (lett ((!((((v0)[Int.toNat v5]?.getD (S_host_Event.mk 0 0 0 0)).f_At == ((v1)[Int.toNat v5]?.getD (S_host_Event.mk 0 0 0 0)).f_At) && ((((v0)[Int.toNat v5]?.getD (S_host_Event.mk 0 0 0 0)).f_Kind == ((v1)[Int.toNat v5]?.getD (S_host_Event.mk 0 0 0 0)).f_Kind) && ((((v0)[Int.toNat v5]?.getD (S_host_Event.mk 0 0 0 0)).f_Id == ((v1)[Int.toNat v5]?.getD (S_host_Event.mk 0 0 0 0)).f_Id) && (((v0)[Int.toNat v5]?.getD (S_host_Event.mk 0 0 0 0)).f_What == ((v1)[Int.toNat v5]?.getD (S_host_Event.mk 0 0 0 0)).f_What))))):Bool) fun x1 =>
 if x1 = true then (some (.inr false))
 else (ref35_Same_l1 n v0 v1 k (IntKind.wrap .i64 (v5 + 1)))) else none) else none)
 else (some (.inl ()))
end Go.Proofs.YtaecmkldkljioaaGreat.M
