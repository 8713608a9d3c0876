import Derived.Test.YtaecmkldkljioaaGreatQM35i
set_option linter.all false
namespace Go.Proofs.YtaecmkldkljioaaGreat.M
open Go.RowKit Go.Proofs.YtaecmkldkljioaaGreat.RX
set_option maxRecDepth 100000
structure S_api_Var where
 f_Key:List UInt8
 f_Val:List UInt8
structure S_api_Port where
 f_Host:List UInt8
 f_Out:Int
 f_In:Int
 f_Proto:List UInt8
structure S_api_Mount where
 f_Source:List UInt8
 f_Target:List UInt8
 f_ReadOnly:Bool
structure S_api_Dep where
 f_Service:List UInt8
 f_Cond:Int
 f_Restart:Bool
 f_Required:Bool
structure S_api_Service where
 f_Name:List UInt8
 f_Image:List UInt8
 f_Command:List (List UInt8)
 f_Env:List (S_api_Var)
 f_Labels:List (S_api_Var)
 f_Ports:List (S_api_Port)
 f_Mounts:List (S_api_Mount)
 f_Nets:List (List UInt8)
 f_Deps:List (S_api_Dep)
 f_Replicas:Int
 f_Health:S_api_Check
 f_Restart:Int
 f_Tries:Int
 f_Cpus:Int
 f_Mem:Int
def E_api_Var:S_api_Var → List D:=fun x=>[.str x.f_Key,.str x.f_Val]
def E_api_Port:S_api_Port → List D:=fun x=>[.str x.f_Host,.val (.int .i64 x.f_Out),.val (.int .i64 x.f_In),.str x.f_Proto]
def E_api_Mount:S_api_Mount → List D:=fun x=>[.str x.f_Source,.str x.f_Target,.val (.bool x.f_ReadOnly)]
def E_api_Dep:S_api_Dep → List D:=fun x=>[.str x.f_Service,.val (.int .i64 x.f_Cond),.val (.bool x.f_Restart),.val (.bool x.f_Required)]
abbrev Z_api_Service:S_api_Service:=(S_api_Service.mk [] [] [] [] [] [] [] [] [] 0 (S_api_Check.mk [] 0 0 0) 0 0 0 0)
def E_api_Service:S_api_Service → List D:=fun x=>[.str x.f_Name,.str x.f_Image,.recs (α:=List UInt8) [] E_string x.f_Command,.recs (α:=S_api_Var) (S_api_Var.mk [] []) E_api_Var x.f_Env,.recs (α:=S_api_Var) (S_api_Var.mk [] []) E_api_Var x.f_Labels,.recs (α:=S_api_Port) (S_api_Port.mk [] 0 0 []) E_api_Port x.f_Ports,.recs (α:=S_api_Mount) (S_api_Mount.mk [] [] false) E_api_Mount x.f_Mounts,.recs (α:=List UInt8) [] E_string x.f_Nets,.recs (α:=S_api_Dep) (S_api_Dep.mk [] 0 false false) E_api_Dep x.f_Deps,.val (.int .i64 x.f_Replicas),.str x.f_Health.f_Test,.val (.int .i64 x.f_Health.f_Every),.val (.int .i64 x.f_Health.f_Start),.val (.int .i64 x.f_Health.f_Retries),.val (.int .i64 x.f_Restart),.val (.int .i64 x.f_Tries),.val (.int .i64 x.f_Cpus),.val (.int .i64 x.f_Mem)]
structure S_view_Seen where
 f_Boxes:List (S_api_Container)
 f_Nets:List (S_api_Kept)
 f_Vols:List (S_api_Kept)
def view_Mine_1__e (a0:S_api_Container) (c0:List UInt8):Bool :=
 (a0.f_Spec.f_Project == c0)
theorem ok_view_Mine_1__e (a0:S_api_Container) (c0:List UInt8) (r:Bool) (h:view_Mine_1__e a0 c0 = r):CallsX Tryz.prog 118 [.agg (qc16 a0),.el [.str c0]] (vb r):=by
 unfold view_Mine_1__e at h
 refine xo Tryz.f118 rfl fun F0 w0 _=>?_
 refine Wp.seq (rg [1,2] [2] [(1,.el [.str c0]),(2,.own 2 0)] [(ex12 a0)] (To.thenN (Wp.seq (rg [3] [] [(3,vb (a0.f_Spec.f_Project == c0))] [] (To.thenN (Wp.ret ?_))))))
 cases h
 exact To.done hΓ (by kernel_rfl)
def cmp_isNaN_string (a0:List UInt8):Bool :=
 (!(a0 == a0))
theorem ok_cmp_isNaN_string (a0:List UInt8) (r:Bool) (h:cmp_isNaN_string a0 = r):CallsX Tryz.prog 159 [.str a0] (vb r):=by
 unfold cmp_isNaN_string at h
 refine xo Tryz.f159 rfl fun F0 w0 _=>?_
 refine Wp.seq (rg [0] [] [(0,.str a0)] [] (To.thenN (Wp.seq (rg [2] [] [(2,vb (!(a0 == a0)))] [] (To.thenN (Wp.ret ?_))))))
 cases h
 exact To.done hΓ (by kernel_rfl)
def cmp_Compare_string (a0:List UInt8) (a1:List UInt8):Int :=
 if (cmp_isNaN_string a0) = true then (if (cmp_isNaN_string a1) = true then 0
 else ((-1)))
 else (if (cmp_isNaN_string a1) = true then 1
 else (if (Op.bytesLess a0 a1) = true then ((-1))
 else (if (!(Op.bytesLess a0 a1 || a0 == a1)) = true then 1
 else 0)))
theorem ok_cmp_Compare_string (a0:List UInt8) (a1:List UInt8) (r:Int) (h:cmp_Compare_string a0 a1 = r):CallsX Tryz.prog 139 [.str a0,.str a1] (vi r):=by
 unfold cmp_Compare_string at h
 refine xo Tryz.f139 rfl fun F0 w0 _=>?_
 refine Wp.seq (rg [0,1] [] [(0,.str a0),(1,.str a1)] [] (To.thenN (Wp.seq (rc [] 1 [0,1,5] [] [(0,.str a0),(1,.str a1),(5,vb (cmp_isNaN_string a0))] [] (ok_cmp_isNaN_string a0 _ rfl) (To.thenN (Wp.seq (rc [] 1 [0,1,5,6] [] [(0,.str a0),(1,.str a1),(5,vb (cmp_isNaN_string a0)),(6,vb (cmp_isNaN_string a1))] [] (ok_cmp_isNaN_string a1 _ rfl) (To.thenN (Wp.seq (Wp.seq ?_))))))))))
 refine rg [0,1,6,11] [] [(0,.str a0),(1,.str a1),(6,vb (cmp_isNaN_string a1)),(11,vb (cmp_isNaN_string a0))] [] (To.thenN (cn h (fun h=>?_) (fun h=>?_)))
 ·refine Wp.seq (Wp.seq (rg [12] [] [(12,vb (cmp_isNaN_string a1))] [] (To.thenN (cn h (fun h=>?_) (fun h=>?_)))))
  ·refine Wp.seq (rg [4] [] [(4,vi 0)] [] (To.thenN (Wp.ret (To.thenR (To.thenR ?_)))))
   cases h
   exact To.done hΓ (by kernel_rfl)
  ·refine Wp.skip (To.thenN (Wp.seq (rg [4] [] [(4,vi (-1))] [] (To.thenN (Wp.ret (To.thenR ?_))))))
   cases h
   exact To.done hΓ (by kernel_rfl)
 ·refine Wp.skip (To.thenN (Wp.seq (Wp.seq (rg [0,1,13] [] [(0,.str a0),(1,.str a1),(13,vb (cmp_isNaN_string a1))] [] (To.thenN (cn h (fun h=>?_) (fun h=>?_)))))))
  ·refine Wp.seq (rg [4] [] [(4,vi 1)] [] (To.thenN (Wp.ret (To.thenR ?_))))
   cases h
   exact To.done hΓ (by kernel_rfl)
  ·refine Wp.skip (To.thenN (Wp.seq (Wp.seq (rg [0,1,16] [] [(0,.str a0),(1,.str a1),(16,vb (Op.bytesLess a0 a1))] [] (To.thenN (cn h (fun h=>?_) (fun h=>?_)))))))
   ·refine Wp.seq (rg [4] [] [(4,vi (-1))] [] (To.thenN (Wp.ret (To.thenR ?_))))
    cases h
    exact To.done hΓ (by kernel_rfl)
   ·refine Wp.skip (To.thenN (Wp.seq (Wp.seq (rg [19] [] [(19,vb (!(Op.bytesLess a0 a1 || a0 == a1)))] [] (To.thenN (cn h (fun h=>?_) (fun h=>?_)))))))
    ·refine Wp.seq (rg [4] [] [(4,vi 1)] [] (To.thenN (Wp.ret (To.thenR ?_))))
     cases h
     exact To.done hΓ (by kernel_rfl)
    ·refine Wp.skip (To.thenN (Wp.seq (rg [4] [] [(4,vi 0)] [] (To.thenN (Wp.ret ?_)))))
     cases h
     exact To.done hΓ (by kernel_rfl)
def cmp_isNaN_int (a0:Int):Bool :=
 (a0 != a0)
theorem ok_cmp_isNaN_int (a0:Int) (r:Bool) (h:cmp_isNaN_int a0 = r):CallsX Tryz.prog 160 [vi a0] (vb r):=by
 unfold cmp_isNaN_int at h
 refine xo Tryz.f160 rfl fun F0 w0 _=>?_
 refine Wp.seq (rg [0] [] [(0,vi a0)] [] (To.thenN (Wp.seq (rg [2] [] [(2,vb (a0 != a0))] [] (To.thenN (Wp.ret ?_))))))
 cases h
 exact To.done hΓ (by kernel_rfl)
def cmp_Compare_int (a0:Int) (a1:Int):Int :=
 if (cmp_isNaN_int a0) = true then (if (cmp_isNaN_int a1) = true then 0
 else ((-1)))
 else (if (cmp_isNaN_int a1) = true then 1
 else (if (decide (a0 < a1)) = true then ((-1))
 else (if (decide (a0 > a1)) = true then 1
 else 0)))
theorem ok_cmp_Compare_int (a0:Int) (a1:Int) (r:Int) (h:cmp_Compare_int a0 a1 = r):CallsX Tryz.prog 140 [vi a0,vi a1] (vi r):=by
 unfold cmp_Compare_int at h
 refine xo Tryz.f140 rfl fun F0 w0 _=>?_
 refine Wp.seq (rg [0,1] [] [(0,vi a0),(1,vi a1)] [] (To.thenN (Wp.seq (rc [] 1 [0,1,5] [] [(0,vi a0),(1,vi a1),(5,vb (cmp_isNaN_int a0))] [] (ok_cmp_isNaN_int a0 _ rfl) (To.thenN (Wp.seq (rc [] 1 [0,1,5,6] [] [(0,vi a0),(1,vi a1),(5,vb (cmp_isNaN_int a0)),(6,vb (cmp_isNaN_int a1))] [] (ok_cmp_isNaN_int a1 _ rfl) (To.thenN (Wp.seq (Wp.seq ?_))))))))))
 refine rg [0,1,6,11] [] [(0,vi a0),(1,vi a1),(6,vb (cmp_isNaN_int a1)),(11,vb (cmp_isNaN_int a0))] [] (To.thenN (cn h (fun h=>?_) (fun h=>?_)))
 ·refine Wp.seq (Wp.seq (rg [12] [] [(12,vb (cmp_isNaN_int a1))] [] (To.thenN (cn h (fun h=>?_) (fun h=>?_)))))
  ·refine Wp.seq (rg [4] [] [(4,vi 0)] [] (To.thenN (Wp.ret (To.thenR (To.thenR ?_)))))
   cases h
   exact To.done hΓ (by kernel_rfl)
  ·refine Wp.skip (To.thenN (Wp.seq (rg [4] [] [(4,vi (-1))] [] (To.thenN (Wp.ret (To.thenR ?_))))))
   cases h
   exact To.done hΓ (by kernel_rfl)
 ·refine Wp.skip (To.thenN (Wp.seq (Wp.seq (rg [0,1,13] [] [(0,vi a0),(1,vi a1),(13,vb (cmp_isNaN_int a1))] [] (To.thenN (cn h (fun h=>?_) (fun h=>?_)))))))
  ·refine Wp.seq (rg [4] [] [(4,vi 1)] [] (To.thenN (Wp.ret (To.thenR ?_))))
   cases h
   exact To.done hΓ (by kernel_rfl)
  ·refine Wp.skip (To.thenN (Wp.seq (Wp.seq (rg [0,1,16] [] [(0,vi a0),(1,vi a1),(16,vb (decide (a0 < a1)))] [] (To.thenN (cn h (fun h=>?_) (fun h=>?_)))))))
   ·refine Wp.seq (rg [4] [] [(4,vi (-1))] [] (To.thenN (Wp.ret (To.thenR ?_))))
    cases h
    exact To.done hΓ (by kernel_rfl)
   ·refine Wp.skip (To.thenN (Wp.seq (Wp.seq (rg [19] [] [(19,vb (decide (a0 > a1)))] [] (To.thenN (cn h (fun h=>?_) (fun h=>?_)))))))
    ·refine Wp.seq (rg [4] [] [(4,vi 1)] [] (To.thenN (Wp.ret (To.thenR ?_))))
     cases h
     exact To.done hΓ (by kernel_rfl)
    ·refine Wp.skip (To.thenN (Wp.seq (rg [4] [] [(4,vi 0)] [] (To.thenN (Wp.ret ?_)))))
     cases h
     exact To.done hΓ (by kernel_rfl)
def cmp_Or_int_l1 (n:Nat) (v3:Int) (v6:List (Int)) (v7:Int):Nat → Int → Option (Sum (Unit) (Int))
 | 0,_=>none
 | k + 1,v8=>if (decide (v8 < v7)) = true then (if (decide (0 ≤ v8 ∧ v8 < (List.length v6:Int))) = true then (if (((v6)[Int.toNat v8]?.getD 0) != v3) = true then (some (.inr ((v6)[Int.toNat v8]?.getD 0)))
 else (cmp_Or_int_l1 n v3 v6 v7 k (IntKind.wrap .i64 (v8 + 1)))) else none)
 else (some (.inl ()))
theorem ok_cmp_Or_int_l1 (n:Nat) (v3:Int) (v6:List (Int)) (v7:Int) {F0:Fz} {w0:Pt Tryz.prog} {Q:Exit → Act → World → Prop} (k:Nat):∀ (v8:Int) (o:Sum (Unit) (Int)),cmp_Or_int_l1 n v3 v6 v7 k v8 = some o → (Sum.elim (fun s=>To 18 F0 w0 [(3,vi v3)] [] (.exit 0) Q) (fun s=>To 18 F0 w0 [(2,vi s)] [] .ret Q)) o → WL Tryz.prog 18 F0 w0 [(3,vi v3),(6,rs18 v6),(7,vi v7),(8,vi v8)] [] (cI (cI (cB (cA (cB (cB (cF Tryz.f138))))))) Q:=by
 induction k with
 | zero=>intro v8 o h; cases h
 | succ k ih =>
  intro v8 o h hQ
  rw [cmp_Or_int_l1] at h
  refine WL.round (Wp.seq (rg [3,6,7,8,9] [] [(3,vi v3),(6,rs18 v6),(7,vi v7),(8,vi v8),(9,vb (decide (v8 < v7)))] [] (To.thenN (Wp.seq (cn h (fun h=>?_) (fun h=>?_))))))
  ·refine Wp.skip (To.thenN (Wp.seq (Wp.block (Wp.seq ?_))))
   obtain ⟨hc1,h⟩:=chk_of h
   refine r0 [3,5,6,7,8] [] [(3,vi v3),(5,vi ((v6)[Int.toNat v8]?.getD 0)),(6,rs18 v6),(7,vi v7),(8,vi v8)] [] (AllP.cons hc1 AllP.nil) (To.thenN (Wp.seq (rg [3,5,6,7,8,14] [] [(3,vi v3),(5,vi ((v6)[Int.toNat v8]?.getD 0)),(6,rs18 v6),(7,vi v7),(8,vi v8),(14,vb (((v6)[Int.toNat v8]?.getD 0) != v3))] [] (To.thenN (cn h (fun h=>?_) (fun h=>?_))))))
   ·refine Wp.seq (rg [2] [] [(2,vi ((v6)[Int.toNat v8]?.getD 0))] [] (To.thenN (Wp.ret (To.blockR (To.thenR (To.thenR ?_))))))
    cases h
    exact hQ
   ·refine Wp.skip (To.blockN (To.thenN (rg [3,6,7,8] [] [(3,vi v3),(6,rs18 v6),(7,vi v7),(ex4 v8)] [] (kt [3,6,7,8] [] [(3,vi v3),(6,rs18 v6),(7,vi v7),(ex4 v8)] [] (To.again ?_)))))
    exact ih (IntKind.wrap .i64 (v8 + 1)) _ h hQ
  ·refine Wp.exit (To.thenX (To.thenX (kt [3] [] [(3,vi v3)] [] ?_)))
   cases h
   exact hQ
def cmp_Or_int (n:Nat) (a0:List (Int)):Option (Int) :=
 (cmp_Or_int_l1 n 0 a0 (List.length a0:Int) n 0).bind fun o1 =>
 (Sum.elim (fun o1=>some 0) (fun o1=>some o1)) o1
theorem ok_cmp_Or_int (n:Nat) (a0:List (Int)) (r:Int) (h:cmp_Or_int n a0 = some r):CallsX Tryz.prog 138 [rs18 a0] (vi r):=by
 unfold cmp_Or_int at h
 refine xo Tryz.f138 rfl fun F0 w0 _=>?_
 refine Wp.seq (rg [0] [] [(0,rs18 a0)] [] (To.thenN (Wp.seq (rg [0,3] [] [(0,rs18 a0),(3,vi 0)] [] (To.thenN (Wp.seq (Wp.seq (rg [3,6,7,8] [] [(3,vi 0),(6,rs18 a0),(7,vi (List.length a0:Int)),(8,vi 0)] [] (To.thenN (Wp.block ?_))))))))))
 obtain ⟨o1,ho1,h⟩:=bind_of h
 refine kw [3,6,7,8] [] [(3,vi 0),(6,rs18 a0),(7,vi (List.length a0:Int)),(8,vi 0)] [] (Wp.loopL (ok_cmp_Or_int_l1 n 0 a0 (List.length a0:Int) n 0 o1 ho1 ?_))
 rcases o1 with o1 | o1
 ·replace h:=sum_l h
  refine To.blockX (To.thenN (Wp.seq (rg [2] [] [(2,vi 0)] [] (To.thenN (Wp.ret ?_)))))
  cases h
  exact To.done hΓ (by kernel_rfl)
 ·replace h:=sum_r h
  refine To.blockR (To.thenR ?_)
  cases h
  exact To.done hΓ (by kernel_rfl)
theorem good_E_i64 (l:List (Int)):GoodR (.recs 0 E_i64 l):=⟨Nat.le_of_ble_eq_true (by kernel_rfl),fun _=>⟨rfl,rfl⟩⟩
def view_sorted_1 (n:Nat) (a0:S_api_Container) (a1:S_api_Container):Option (Int) :=
 (cmp_Or_int n [(cmp_Compare_string a0.f_Spec.f_Service a1.f_Spec.f_Service),(cmp_Compare_int a0.f_Spec.f_Number a1.f_Spec.f_Number),(cmp_Compare_int a0.f_Id a1.f_Id)]).bind fun r1 =>
 some r1
abbrev ex24 (x0:S_api_Container) (x1:S_api_Container):=(cmp_Compare_string x0.f_Spec.f_Service x1.f_Spec.f_Service)
abbrev ex25 (x0:S_api_Container) (x1:S_api_Container):=(cmp_Compare_int x0.f_Spec.f_Number x1.f_Spec.f_Number)
theorem ok_view_sorted_1 (n:Nat) (a0:S_api_Container) (a1:S_api_Container) (r:Int) (h:view_sorted_1 n a0 a1 = some r):CallsX Tryz.prog 137 [.agg (qc16 a0),.agg (qc16 a1)] (vi r):=by
 unfold view_sorted_1 at h
 refine xo Tryz.f137 rfl fun F0 w0 _=>?_
 refine Wp.seq (rg [2,3] [2,3] [(2,.own 2 0),(3,.own 3 0)] [(ex12 a0),(3,120,(E_api_Container a1))] (To.thenN (Wp.seq ?_)))
 obtain ⟨r1,hr1,h⟩:=bind_of h
 refine Wp.regionD hm hΓ [(6,vi (ex24 a0 a1)),(13,vi (ex25 a0 a1)),(18,vi (cmp_Compare_int a0.f_Id a1.f_Id)),(19,rs18 [(ex24 a0 a1),(ex25 a0 a1),(cmp_Compare_int a0.f_Id a1.f_Id)]),(20,vi r1)] [4] [] (K':=[(4,vi r1)]) (L':=[]) (ob:=[(true = true → CX Tryz.prog 139 [.str a0.f_Spec.f_Service,.str a1.f_Spec.f_Service] (vi (ex24 a0 a1))),(true = true → CX Tryz.prog 140 [vi a0.f_Spec.f_Number,vi a1.f_Spec.f_Number] (vi (ex25 a0 a1))),(true = true → CX Tryz.prog 140 [vi a0.f_Id,vi a1.f_Id] (vi (cmp_Compare_int a0.f_Id a1.f_Id))),(true = true → MkOb 1 [vi (ex24 a0 a1),vi (ex25 a0 a1),vi (cmp_Compare_int a0.f_Id a1.f_Id)] 3 (rs18 [(ex24 a0 a1),(ex25 a0 a1),(cmp_Compare_int a0.f_Id a1.f_Id)]) ∧ GoodR (rs18 [(ex24 a0 a1),(ex25 a0 a1),(cmp_Compare_int a0.f_Id a1.f_Id)])),(true = true → CX Tryz.prog 138 [rs18 [(ex24 a0 a1),(ex25 a0 a1),(cmp_Compare_int a0.f_Id a1.f_Id)]] (vi r1))]) (by kernel_rfl) (AllP.cons (fun _=>cx (ok_cmp_Compare_string a0.f_Spec.f_Service a1.f_Spec.f_Service _ rfl)) (AllP.cons (fun _=>cx (ok_cmp_Compare_int a0.f_Spec.f_Number a1.f_Spec.f_Number _ rfl)) (AllP.cons (fun _=>cx (ok_cmp_Compare_int a0.f_Id a1.f_Id _ rfl)) (AllP.cons (fun _=>mkOb (by kernel_rfl) rfl (by kernel_rfl) (good_E_i64 _)) (AllP.cons (fun _=>cx (ok_cmp_Or_int n [(ex24 a0 a1),(ex25 a0 a1),(cmp_Compare_int a0.f_Id a1.f_Id)] _ hr1)) AllP.nil))))) (To.thenN (Wp.ret ?_))
 cases h
 exact To.done hΓ (by kernel_rfl)
def view_those_api_Container_o__view_Mine_1_e_j2 (n:Nat) (v1_0:List UInt8) (v5:List (S_api_Container)) (v8:List (S_api_Container)) (v9:Int) (v10:Int):Option ((List (S_api_Container))) :=
 if (decide (0 ≤ v10 ∧ v10 < (List.length v8:Int))) = true then (lett (view_Mine_1__e ((v8)[Int.toNat v10]?.getD Z_api_Container) v1_0) fun r1 =>
 if r1 = true then (if (decide ((List.length v5 + List.length ([((v8)[Int.toNat v10]?.getD Z_api_Container)]:List (S_api_Container))) * (216 + 1) ≤ limit)) = true then (some (v5 ++ ([((v8)[Int.toNat v10]?.getD Z_api_Container)]:List (S_api_Container)))) else none)
 else some v5) else none
abbrev ex49 (x0:List (S_api_Container)) (x1:Int):=([(ex15 x0 x1)]:List (S_api_Container))
abbrev ex53 (x0:List (S_api_Container)) (x1:List (S_api_Container)) (x2:Int):=(AppOb Z_api_Container E_api_Container x0 (List.flatMap E_api_Container (ex49 x1 x2)) (List.length (ex49 x1 x2)) (rs19 (x0 ++ (ex49 x1 x2))) ∧ GoodR (rs19 (x0 ++ (ex49 x1 x2))))
theorem ok_view_those_api_Container_o__view_Mine_1_e_j2 (n:Nat) (v1_0:List UInt8) (v5:List (S_api_Container)) (v8:List (S_api_Container)) (v9:Int) (v10:Int) (o:(List (S_api_Container))) (h:view_those_api_Container_o__view_Mine_1_e_j2 n v1_0 v5 v8 v9 v10 = some o) {F0:Fz} {w0:Pt Tryz.prog} {Q:Exit → Act → World → Prop} (hQ:To 23 F0 w0 [(1,.fn 118 [.el [.str v1_0]]),(5,.row 1005),(8,rs19 v8),(9,vi v9),(10,vi v10)] [(1005,120,[rc17 o])] .normal Q):Wp Tryz.prog 23 F0 w0 [(1,.fn 118 [.el [.str v1_0]]),(5,.row 1005),(8,rs19 v8),(9,vi v9),(10,vi v10)] [(1005,120,[rc17 v5])] (cA (cB (cB (cI (cI (cB (cA (cB (cB (cF Tryz.f113)))))))))) Q:=by
 unfold view_those_api_Container_o__view_Mine_1_e_j2 at h
 refine Wp.block (Wp.seq ?_)
 obtain ⟨hc3,h⟩:=chk_of h
 refine r0 [1,5,7,8,9,10] [7,1005] [(1,.fn 118 [.el [.str v1_0]]),(5,.row 1005),(7,.own 7 0),(8,rs19 v8),(9,vi v9),(10,vi v10)] [(ex46 v8 v10),(1005,120,[rc17 v5])] (AllP.cons hc3 AllP.nil) (To.thenN (Wp.seq ?_))
 obtain ⟨r1,hr1,h⟩:=lett_of h
 refine rc [] 2 [1,5,7,8,9,10,16] [7,1005] [(1,.fn 118 [.el [.str v1_0]]),(5,.row 1005),(7,.own 7 0),(8,rs19 v8),(9,vi v9),(10,vi v10),(16,vb r1)] [(ex46 v8 v10),(1005,120,[rc17 v5])] (ok_view_Mine_1__e (ex15 v8 v10) v1_0 _ hr1) (To.thenN (cn h (fun h=>?_) (fun h=>?_)))
 ·obtain ⟨hc2,h⟩:=chk_of h
  refine rr [] [(2,rs19 ([(ex15 v8 v10)])),(3,rs19 (v5 ++ (ex49 v8 v10)))] [] [1,5,8,9,10] [20] [(1,.fn 118 [.el [.str v1_0]]),(5,.row 20),(8,rs19 v8),(9,vi v9),(10,vi v10)] [(20,120,[rc17 (v5 ++ (ex49 v8 v10))])] [(MkOb 18 [vi ((ex15 v8 v10).f_Id),.str ((ex15 v8 v10).f_Spec.f_Name),.str (ex42 v8 v10),.str (ex43 v8 v10),vi (ex45 v8 v10),.str ((ex15 v8 v10).f_Spec.f_Hash),ls ((ex15 v8 v10).f_Spec.f_Nets),ls ((ex15 v8 v10).f_Spec.f_Vols),.str (ex41 v8 v10),vi (ex39 v8 v10),vi (ex40 v8 v10),vi (ex38 v8 v10),vi (ex44 v8 v10),vi ((ex15 v8 v10).f_Spec.f_Tries),vi ((ex15 v8 v10).f_State),vi ((ex15 v8 v10).f_Code),vi ((ex15 v8 v10).f_Health),vi ((ex15 v8 v10).f_Runs)] 1 (rs19 ([(ex15 v8 v10)])) ∧ GoodR (rs19 ([(ex15 v8 v10)]))),_,(ex53 v5 v8 v10)] (AllP.cons (mkOb (by kernel_rfl) rfl (by kernel_rfl) (good_E_api_Container _)) (AllP.cons hc2 (AllP.cons (appOb rfl rfl (good_E_api_Container _)) AllP.nil))) (To.blockN (nt [1,5,8,9,10] [20] [(20,1005)] [1,5,8,9,10] [1005] [(1,.fn 118 [.el [.str v1_0]]),(5,.row 1005),(8,rs19 v8),(9,vi v9),(10,vi v10)] [(1005,120,[rc17 (v5 ++ (ex49 v8 v10))])] ?_))
  cases h
  exact hQ
 ·refine Wp.skip (To.blockN (kt [1,5,8,9,10] [1005] [(1,.fn 118 [.el [.str v1_0]]),(5,.row 1005),(8,rs19 v8),(9,vi v9),(10,vi v10)] [(1005,120,[rc17 v5])] ?_))
  cases h
  exact hQ
def view_those_api_Container_o__view_Mine_1_e_l1 (n:Nat) (v1_0:List UInt8) (v8:List (S_api_Container)) (v9:Int):Nat → (List (S_api_Container)) → Int → Option ((List (S_api_Container)))
 | 0,_,_=>none
 | k + 1,v5,v10=>if (decide (v10 < v9)) = true then ((view_those_api_Container_o__view_Mine_1_e_j2 n v1_0 v5 v8 v9 v10).bind fun o1 =>
 view_those_api_Container_o__view_Mine_1_e_l1 n v1_0 v8 v9 k o1 (IntKind.wrap .i64 (v10 + 1)))
 else some v5
theorem ok_view_those_api_Container_o__view_Mine_1_e_l1 (n:Nat) (v1_0:List UInt8) (v8:List (S_api_Container)) (v9:Int) {F0:Fz} {w0:Pt Tryz.prog} {Q:Exit → Act → World → Prop} (k:Nat):∀ (v5:List (S_api_Container)) (v10:Int) (o:(List (S_api_Container))),view_those_api_Container_o__view_Mine_1_e_l1 n v1_0 v8 v9 k v5 v10 = some o → To 23 F0 w0 [(5,.row 1005)] [(1005,120,[rc17 o])] (.exit 0) Q → WL Tryz.prog 23 F0 w0 [(1,.fn 118 [.el [.str v1_0]]),(5,.row 1005),(8,rs19 v8),(9,vi v9),(10,vi v10)] [(1005,120,[rc17 v5])] (cI (cI (cB (cA (cB (cB (cF Tryz.f113))))))) Q:=by
 induction k with
 | zero=>intro v5 v10 o h; cases h
 | succ k ih =>
  intro v5 v10 o h hQ
  rw [view_those_api_Container_o__view_Mine_1_e_l1] at h
  refine WL.round (Wp.seq (rg [1,5,8,9,10,11] [1005] [(1,.fn 118 [.el [.str v1_0]]),(5,.row 1005),(8,rs19 v8),(9,vi v9),(10,vi v10),(11,vb (decide (v10 < v9)))] [(1005,120,[rc17 v5])] (To.thenN (Wp.seq (cn h (fun h=>?_) (fun h=>?_))))))
  ·refine Wp.skip (To.thenN (Wp.seq ?_))
   obtain ⟨o1,ho1,h⟩:=bind_of h
   refine kw [1,5,8,9,10] [1005] [(1,.fn 118 [.el [.str v1_0]]),(5,.row 1005),(8,rs19 v8),(9,vi v9),(10,vi v10)] [(1005,120,[rc17 v5])] (ok_view_those_api_Container_o__view_Mine_1_e_j2 n v1_0 v5 v8 v9 v10 o1 ho1 (To.thenN (rg [1,5,8,9,10] [1005] [(1,.fn 118 [.el [.str v1_0]]),(5,.row 1005),(8,rs19 v8),(9,vi v9),(ex18 v10)] [(1005,120,[rc17 o1])] (kt [1,5,8,9,10] [1005] [(1,.fn 118 [.el [.str v1_0]]),(5,.row 1005),(8,rs19 v8),(9,vi v9),(ex18 v10)] [(1005,120,[rc17 o1])] (To.again ?_)))))
   exact ih o1 (IntKind.wrap .i64 (v10 + 1)) _ h hQ
  ·refine Wp.exit (To.thenX (To.thenX (kt [5] [1005] [(5,.row 1005)] [(1005,120,[rc17 v5])] ?_)))
   cases h
   exact hQ
def view_those_api_Container_o__view_Mine_1_e (n:Nat) (a0:List (S_api_Container)) (c0:List UInt8):Option ((List (S_api_Container))) :=
 (view_those_api_Container_o__view_Mine_1_e_l1 n c0 a0 (List.length a0:Int) n ([]:List (S_api_Container)) 0).bind fun o1 =>
 some o1
abbrev ex26 (x0:List (S_api_Container)):Nat × D:=(9,vi (List.length x0:Int))
theorem ok_view_those_api_Container_o__view_Mine_1_e (n:Nat) (a0:List (S_api_Container)) (c0:List UInt8) (r:(List (S_api_Container))) (h:view_those_api_Container_o__view_Mine_1_e n a0 c0 = some r):CallsB Tryz.prog 113 [rs19 a0,.fn 118 [.el [.str c0]]] [] (.row 1) [(1,120,[rc17 r])]:=by
 unfold view_those_api_Container_o__view_Mine_1_e at h
 refine bo Tryz.f113 rfl fun F0 w0=>?_
 refine Wp.seq (rg [0,1] [] [(0,rs19 a0),(1,.fn 118 [.el [.str c0]])] [] (To.thenN (Wp.seq (rg [0,1,5] [] [(0,rs19 a0),(1,.fn 118 [.el [.str c0]]),(5,.val (.slice none 0 0))] [] (To.thenN (Wp.seq (Wp.seq (rg [1,5,8,9,10] [] [(1,.fn 118 [.el [.str c0]]),(5,.val (.slice none 0 0)),(8,rs19 a0),(ex26 a0),(10,vi 0)] [] (To.thenN (Wp.block ?_))))))))))
 obtain ⟨o1,ho1,h⟩:=bind_of h
 refine kw [1,5,8,9,10] [] [(1,.fn 118 [.el [.str c0]]),(5,.val (.slice none 0 0)),(8,rs19 a0),(ex26 a0),(10,vi 0)] [] (Wp.pre (St.vacant (t:=5) (k:=1005) (e:=120) (K':=[(1,.fn 118 [.el [.str c0]]),(5,.row 1005),(8,rs19 a0),(ex26 a0),(10,vi 0)]) (good_E_api_Container _) (by decide) (by kernel_rfl) (by kernel_rfl)) (kw [1,5,8,9,10] [1005] [(1,.fn 118 [.el [.str c0]]),(5,.row 1005),(8,rs19 a0),(ex26 a0),(10,vi 0)] [(1005,120,[rc17 []])] (Wp.loopL (ok_view_those_api_Container_o__view_Mine_1_e_l1 n c0 a0 (List.length a0:Int) n ([]:List (S_api_Container)) 0 o1 ho1 (To.blockX (To.thenN (Wp.seq (rg [4] [1005] [(4,.row 1005)] [(1005,120,[rc17 o1])] (To.thenN (Wp.ret ?_))))))))))
 refine nt [4] [1005] [(1005,1004)] [4] [1004] [(4,.row 1004)] [(1004,120,[rc17 o1])] (To.pre (St.rename 1004 1 (by decide) (K':=[(4,.row 1)]) (L':=[(1,120,[rc17 o1])]) (by kernel_rfl) (by kernel_rfl) (by kernel_rfl)) ?_)
 cases h
 exact To.doneB hΓ [1] (by kernel_rfl) (by kernel_rfl)
def slices_insertionSortCmpFunc_api_Container__r0__view_sorted_1_l2 (n:Nat) (v1:Int) (v2:Int) (v8:Int):Nat → (List (S_api_Container)) → Int → Option ((List (S_api_Container)))
 | 0,_,_=>none
 | k + 1,v0,v9=>if ((!((decide (v9 > v1)) == true) || decide (0 ≤ v9 ∧ v9 < (List.length v0:Int)))) = true then (if ((!((decide (v9 > v1)) == true) || decide (0 ≤ (IntKind.wrap .i64 (v9 - 1)) ∧ (IntKind.wrap .i64 (v9 - 1)) < (List.length v0:Int)))) = true then (((if ((decide (v9 > v1)) == true) = true then view_sorted_1 n ((v0)[Int.toNat v9]?.getD Z_api_Container) ((v0)[Int.toNat (IntKind.wrap .i64 (v9 - 1))]?.getD Z_api_Container) else some 0)).bind fun r1 =>
 if (bif (decide (v9 > v1)) then (decide (r1 < 0)) else false) = true then (if (decide (0 ≤ (IntKind.wrap .i64 (v9 - 1)) ∧ (IntKind.wrap .i64 (v9 - 1)) < (List.length v0:Int))) = true then (if (decide (0 ≤ v9 ∧ v9 < (List.length v0:Int))) = true then (if (decide (0 ≤ (IntKind.wrap .i64 (v9 - 1)) ∧ (IntKind.wrap .i64 (v9 - 1)) < (List.length (List.set v0 (Int.toNat v9) ((v0)[Int.toNat (IntKind.wrap .i64 (v9 - 1))]?.getD Z_api_Container)):Int))) = true then (lett ((List.set (List.set v0 (Int.toNat v9) ((v0)[Int.toNat (IntKind.wrap .i64 (v9 - 1))]?.getD Z_api_Container)) (Int.toNat (IntKind.wrap .i64 (v9 - 1))) ((v0)[Int.toNat v9]?.getD Z_api_Container)):List (S_api_Container)) fun x2 =>
 slices_insertionSortCmpFunc_api_Container__r0__view_sorted_1_l2 n v1 v2 v8 k x2 (IntKind.wrap .i64 (v9 - 1))) else none) else none) else none)
 else some v0) else none) else none
end Go.Proofs.YtaecmkldkljioaaGreat.M
