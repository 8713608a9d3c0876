import Derived.Test.YtibgdilkodjojaaDoorQE14
set_option linter.all false
namespace Go.Proofs.YtibgdilkodjojaaDoor.M
open Go.RowKit Go.Proofs.YtibgdilkodjojaaDoor.RX
set_option maxRecDepth 100000
def subst_Expand (n:Nat) (a0:List (S_tmpl_Part)) (a1:List (S_api_Var)):Option ((List UInt8) × Int) :=
 (subst_expand n a0 a1).bind fun r1 =>
 some (r1.1,r1.2.f_e)
abbrev qc16 (x:S_subst_fault):List D:=[vi x.f_e,.str x.f_key,.str x.f_why]
theorem ok_subst_Expand (n:Nat) (a0:List (S_tmpl_Part)) (a1:List (S_api_Var)) (r:(List UInt8) × Int) (h:subst_Expand n a0 a1 = some r):CallsX Tryd.prog 13 [rs3 a0,rs9 a1] (.tup [.str r.1,vi r.2]):=by
 unfold subst_Expand at h
 refine xo Tryd.f13 rfl fun F0 w0 _=>?_
 refine Wp.seq (rg [0,1] [] [(0,rs3 a0),(1,rs9 a1)] [] (To.thenN (Wp.seq ?_)))
 obtain ⟨r1,hr1,h⟩:=bind_of h
 refine rc [] 2 [6,7] [7] [(6,.str r1.1),(7,.own 7 0)] [(7,64,qc16 r1.2)] (ok_subst_expand n a0 a1 _ hr1) (To.thenN (Wp.seq (Wp.regionD hm hΓ [] [4,5] [] (K':=[(4,.str r1.1),(5,vi r1.2.f_e)]) (L':=[]) (ob:=[]) (by kernel_rfl) AllP.nil (To.thenN (Wp.ret ?_)))))
 cases h
 exact To.done hΓ (by kernel_rfl)
def subst_Text (n:Nat) (a0:List UInt8) (a1:List (S_api_Var)):Option ((List UInt8) × Int) :=
 (tmpl_Parse n a0).bind fun r1 =>
 if (r1.2 != 0) = true then (some ([],r1.2))
 else ((subst_Expand n r1.1 a1).bind fun r2 =>
 some (r2.1,r2.2))
theorem ok_subst_Text (n:Nat) (a0:List UInt8) (a1:List (S_api_Var)) (r:(List UInt8) × Int) (h:subst_Text n a0 a1 = some r):CallsX Tryd.prog 10 [.str a0,rs9 a1] (.tup [.str r.1,vi r.2]):=by
 unfold subst_Text at h
 refine xo Tryd.f10 rfl fun F0 w0 _=>?_
 refine Wp.seq (rg [0,1] [] [(0,.str a0),(1,rs9 a1)] [] (To.thenN (Wp.seq ?_)))
 obtain ⟨r1,hr1,h⟩:=bind_of h
 refine rc [] 1 [1,6,7] [] [(1,rs9 a1),(6,rs3 r1.1),(7,vi r1.2)] [] (ok_tmpl_Parse n a0 _ hr1) (To.thenN (Wp.seq (Wp.seq (rg [1,6,7,14] [] [(1,rs9 a1),(6,rs3 r1.1),(7,vi r1.2),(14,vb (r1.2 != 0))] [] (To.thenN (cn h (fun h=>?_) (fun h=>?_)))))))
 ·refine Wp.seq (rg [4,5] [] [(4,.str []),(5,vi r1.2)] [] (To.thenN (Wp.ret (To.thenR ?_))))
  cases h
  exact To.done hΓ (by kernel_rfl)
 ·refine Wp.skip (To.thenN (Wp.seq ?_))
  obtain ⟨r2,hr2,h⟩:=bind_of h
  refine rc [] 2 [4,5] [] [(4,.str r2.1),(5,vi r2.2)] [] (ok_subst_Expand n r1.1 a1 _ hr2) (To.thenN (Wp.ret ?_))
  cases h
  exact To.done hΓ (by kernel_rfl)
theorem good_E_api_Var (l:List (S_api_Var)):GoodR (.recs (S_api_Var.mk [] []) E_api_Var l):=⟨Nat.le_of_ble_eq_true (by kernel_rfl),fun _=>⟨rfl,rfl⟩⟩
def law14_awake (n:Nat):Option (Bool) :=
 (subst_Text n [36,123,65,125,45,36,123,66,58,45,36,65,125] ([(S_api_Var.mk [65] [120])])).bind fun r1 =>
 (subst_Text n [36,123,66,63,103,111,110,101,125] ([(S_api_Var.mk [65] [120])])).bind fun r2 =>
 some (bif (bif (r1.1 == [120,45,120]) then (r1.2 == 0) else false) then (r2.2 == 4) else false)
abbrev rc17 (l:List (S_api_Var)):D:=.rowc false (α:=S_api_Var) zx8 E_api_Var l
abbrev rc18 (l:List (S_api_Var)):D:=.rowc true (α:=S_api_Var) zx8 E_api_Var l
theorem ok_law14_awake (n:Nat) (r:Bool) (h:law14_awake n = some r):CallsX Tryd.prog 8 [] (vb r):=by
 unfold law14_awake at h
 refine xo Tryd.f8 rfl fun F0 w0 _=>?_
 refine Wp.seq (rg [] [] [] [] (To.thenN (Wp.seq (rr [] [(1,rs9 ([(S_api_Var.mk [65] [120])]))] [] [1] [7] [(1,.row 7)] [(7,43,[rc17 ([(S_api_Var.mk [65] [120])])])] [(MkOb 2 [.str [65],.str [120]] 1 (rs9 ([(S_api_Var.mk [65] [120])])) ∧ GoodR (rs9 ([(S_api_Var.mk [65] [120])])))] (AllP.cons (mkOb (by kernel_rfl) rfl (by kernel_rfl) (good_E_api_Var _)) AllP.nil) (To.thenN (Wp.seq ?_))))))
 obtain ⟨r1,hr1,h⟩:=bind_of h
 refine rc [(1,[7])] 1 [1,2,3] [7] [(1,.row 7),(2,.str r1.1),(3,vi r1.2)] [(7,43,[rc18 ([(S_api_Var.mk [65] [120])])])] (ok_subst_Text n [36,123,65,125,45,36,123,66,58,45,36,65,125] ([(S_api_Var.mk [65] [120])]) _ hr1) (To.thenN (Wp.seq ?_))
 obtain ⟨r2,hr2,h⟩:=bind_of h
 refine rc [] 1 [2,3,5] [] [(2,.str r1.1),(3,vi r1.2),(5,vi r2.2)] [] (ok_subst_Text n [36,123,66,63,103,111,110,101,125] ([(S_api_Var.mk [65] [120])]) _ hr2) (To.thenN (Wp.seq (rg [0] [] [(0,vb (bif (bif (r1.1 == [120,45,120]) then (r1.2 == 0) else false) then (r2.2 == 4) else false))] [] (To.thenN (Wp.ret ?_)))))
 cases h
 exact To.done hΓ (by kernel_rfl)
def ref02_Kind (a0:Int):Int :=
 if (bif (decide (a0 ≥ 97)) then (decide (a0 ≤ 122)) else false) = true then 1
 else (if (bif (decide (a0 ≥ 65)) then (decide (a0 ≤ 90)) else false) = true then 2
 else (if (bif (decide (a0 ≥ 48)) then (decide (a0 ≤ 57)) else false) = true then 3
 else (if (a0 == 95) = true then 4
 else (if (a0 == 45) = true then 5
 else (if (a0 == 46) = true then 6
 else 0)))))
theorem ok_ref02_Kind (a0:Int) (r:Int) (h:ref02_Kind a0 = r):CallsX Tryd.prog 74 [.val (.int .u8 a0)] (vi r):=by
 unfold ref02_Kind at h
 refine xo Tryd.f74 rfl fun F0 w0 _=>?_
 refine Wp.seq (rg [0] [] [(0,.val (.int .u8 a0))] [] (To.thenN (Wp.seq (Wp.seq (rg [0,8] [] [(0,.val (.int .u8 a0)),(8,vb (ex9 a0))] [] (To.thenN (cn h (fun h=>?_) (fun h=>?_))))))))
 ·refine Wp.seq (rg [2] [] [(2,vi 1)] [] (To.thenN (Wp.ret (To.thenR ?_))))
  cases h
  exact To.done hΓ (by kernel_rfl)
 ·refine Wp.skip (To.thenN (Wp.seq (Wp.seq (rg [0,14] [] [(0,.val (.int .u8 a0)),(14,vb (ex11 a0))] [] (To.thenN (cn h (fun h=>?_) (fun h=>?_)))))))
  ·refine Wp.seq (rg [2] [] [(2,vi 2)] [] (To.thenN (Wp.ret (To.thenR ?_))))
   cases h
   exact To.done hΓ (by kernel_rfl)
  ·refine Wp.skip (To.thenN (Wp.seq (Wp.seq (rg [0,20] [] [(0,.val (.int .u8 a0)),(20,vb (ex10 a0))] [] (To.thenN (cn h (fun h=>?_) (fun h=>?_)))))))
   ·refine Wp.seq (rg [2] [] [(2,vi 3)] [] (To.thenN (Wp.ret (To.thenR ?_))))
    cases h
    exact To.done hΓ (by kernel_rfl)
   ·refine Wp.skip (To.thenN (Wp.seq (Wp.seq (rg [0,22] [] [(0,.val (.int .u8 a0)),(22,vb (a0 == 95))] [] (To.thenN (cn h (fun h=>?_) (fun h=>?_)))))))
    ·refine Wp.seq (rg [2] [] [(2,vi 4)] [] (To.thenN (Wp.ret (To.thenR ?_))))
     cases h
     exact To.done hΓ (by kernel_rfl)
    ·refine Wp.skip (To.thenN (Wp.seq (Wp.seq (rg [0,24] [] [(0,.val (.int .u8 a0)),(24,vb (a0 == 45))] [] (To.thenN (cn h (fun h=>?_) (fun h=>?_)))))))
     ·refine Wp.seq (rg [2] [] [(2,vi 5)] [] (To.thenN (Wp.ret (To.thenR ?_))))
      cases h
      exact To.done hΓ (by kernel_rfl)
     ·refine Wp.skip (To.thenN (Wp.seq (Wp.seq (rg [26] [] [(26,vb (a0 == 46))] [] (To.thenN (cn h (fun h=>?_) (fun h=>?_)))))))
      ·refine Wp.seq (rg [2] [] [(2,vi 6)] [] (To.thenN (Wp.ret (To.thenR ?_))))
       cases h
       exact To.done hΓ (by kernel_rfl)
      ·refine Wp.skip (To.thenN (Wp.seq (rg [2] [] [(2,vi 0)] [] (To.thenN (Wp.ret ?_)))))
       cases h
       exact To.done hΓ (by kernel_rfl)
def ref02_Variable_l1 (n:Nat) (v0:List UInt8):Nat → Int → Option (Sum (Unit) (Bool))
 | 0,_=>none
 | k + 1,v3=>if (decide (v3 < (List.length v0:Int))) = true then (if (decide (0 ≤ v3 ∧ v3 < (List.length v0:Int))) = true then (lett ((bif (bif ((ref02_Kind (((v0)[Int.toNat v3]?.getD 0).toNat:Int)) == 0) then true else (decide ((ref02_Kind (((v0)[Int.toNat v3]?.getD 0).toNat:Int)) > 4))) then true else (bif (v3 == 0) then ((ref02_Kind (((v0)[Int.toNat v3]?.getD 0).toNat:Int)) == 3) else false)):Bool) fun x1 =>
 if x1 = true then (some (.inr false))
 else (ref02_Variable_l1 n v0 k (IntKind.wrap .i64 (v3 + 1)))) else none)
 else (some (.inl ()))
theorem ok_ref02_Variable_l1 (n:Nat) (v0:List UInt8) {F0:Fz} {w0:Pt Tryd.prog} {Q:Exit → Act → World → Prop} (k:Nat):∀ (v3:Int) (o:Sum (Unit) (Bool)),ref02_Variable_l1 n v0 k v3 = some o → (Sum.elim (fun s=>To 37 F0 w0 [] [] (.exit 0) Q) (fun s=>To 37 F0 w0 [(2,vb s)] [] .ret Q)) o → WL Tryd.prog 37 F0 w0 [(0,.str v0),(3,vi v3)] [] (cI (cI (cB (cA (cB (cB (cF Tryd.f43))))))) Q:=by
 induction k with
 | zero=>intro v3 o h; cases h
 | succ k ih =>
  intro v3 o h hQ
  rw [ref02_Variable_l1] at h
  refine WL.round (Wp.seq (Wp.seq (rg [0,3,16] [] [(0,.str v0),(3,vi v3),(16,vb (decide (v3 < (List.length v0:Int))))] [] (To.thenN (cn h (fun h=>?_) (fun h=>?_))))))
  ·refine Wp.skip (To.thenN (Wp.seq (Wp.block (Wp.seq ?_))))
   obtain ⟨hc2,h⟩:=chk_of h
   refine rr [] [(3,vi (ref02_Kind (ex12 v0 v3)))] [] [0,3,4] [] [(0,.str v0),(3,vi v3),(4,vi (ref02_Kind (ex12 v0 v3)))] [] [_,_] (AllP.cons hc2 (AllP.cons (c1 (ok_ref02_Kind (ex12 v0 v3) _ rfl)) AllP.nil)) (To.thenN (Wp.seq ?_))
   obtain ⟨x1,hx1,h⟩:=lett_of h
   refine rg [0,3,36] [] [(0,.str v0),(3,vi v3),(36,vb (bif (bif ((ref02_Kind (ex12 v0 v3)) == 0) then true else (decide ((ref02_Kind (ex12 v0 v3)) > 4))) then true else (bif (v3 == 0) then ((ref02_Kind (ex12 v0 v3)) == 3) else false)))] [] (To.eq (K':=[(0,.str v0),(3,vi v3),(36,vb x1)]) (L':=[]) (by cases hx1; rfl) (by cases hx1; rfl) (To.thenN (cn h (fun h=>?_) (fun h=>?_))))
   ·refine Wp.seq (rg [2] [] [(2,vb false)] [] (To.thenN (Wp.ret (To.blockR (To.thenR (To.thenR ?_))))))
    cases h
    exact hQ
   ·refine Wp.skip (To.blockN (To.thenN (rg [0,3] [] [(0,.str v0),(3,vi (IntKind.wrap .i64 (v3 + 1)))] [] (kt [0,3] [] [(0,.str v0),(3,vi (IntKind.wrap .i64 (v3 + 1)))] [] (To.again ?_)))))
    exact ih (IntKind.wrap .i64 (v3 + 1)) _ h hQ
  ·refine Wp.exit (To.thenX (To.thenX (kt [] [] [] [] ?_)))
   cases h
   exact hQ
def ref02_Variable (n:Nat) (a0:List UInt8):Option (Bool) :=
 if (bif (decide ((List.length a0:Int) < 1)) then true else (decide ((List.length a0:Int) > 24))) = true then some false
 else ((ref02_Variable_l1 n a0 n 0).bind fun o1 =>
 (Sum.elim (fun o1=>some true) (fun o1=>some o1)) o1)
theorem ok_ref02_Variable (n:Nat) (a0:List UInt8) (r:Bool) (h:ref02_Variable n a0 = some r):CallsX Tryd.prog 43 [.str a0] (vb r):=by
 unfold ref02_Variable at h
 refine xo Tryd.f43 rfl fun F0 w0 _=>?_
 refine Wp.seq (rg [0] [] [(0,.str a0)] [] (To.thenN (Wp.seq (Wp.seq (rg [0,12] [] [(0,.str a0),(12,vb (ex13 a0))] [] (To.thenN (cn h (fun h=>?_) (fun h=>?_))))))))
 ·refine Wp.seq (rg [2] [] [(2,vb false)] [] (To.thenN (Wp.ret (To.thenR ?_))))
  cases h
  exact To.done hΓ (by kernel_rfl)
 ·refine Wp.skip (To.thenN (Wp.seq (Wp.seq (rg [0,3] [] [(0,.str a0),(3,vi 0)] [] (To.thenN (Wp.block ?_))))))
  obtain ⟨o1,ho1,h⟩:=bind_of h
  refine kw [0,3] [] [(0,.str a0),(3,vi 0)] [] (Wp.loopL (ok_ref02_Variable_l1 n a0 n 0 o1 ho1 ?_))
  rcases o1 with o1 | o1
  ·replace h:=sum_l h
   refine To.blockX (To.thenN (Wp.seq (rg [2] [] [(2,vb true)] [] (To.thenN (Wp.ret ?_)))))
   cases h
   exact To.done hΓ (by kernel_rfl)
  ·replace h:=sum_r h
   refine To.blockR (To.thenR ?_)
   cases h
   exact To.done hΓ (by kernel_rfl)
def ref02_Sorted_j3 (n:Nat) (v0:List (List UInt8)) (v3:List (List UInt8)) (v4:Int) (v5:Int):Option (Int) :=
 if ((!(((List.length v3:Int) == 0) == false) || decide (0 ≤ v5 ∧ v5 < (List.length v0:Int)))) = true then (if ((!(((List.length v3:Int) == 0) == false) || decide (0 ≤ (IntKind.wrap .i64 ((List.length v3:Int) - 1)) ∧ (IntKind.wrap .i64 ((List.length v3:Int) - 1)) < (List.length v3:Int)))) = true then (if ((!(((decide (v4 < 0)) == false) && ((bif ((List.length v3:Int) == 0) then true else (!(Op.bytesLess ((v0)[Int.toNat v5]?.getD []) ((v3)[Int.toNat (IntKind.wrap .i64 ((List.length v3:Int) - 1))]?.getD []) || ((v0)[Int.toNat v5]?.getD []) == ((v3)[Int.toNat (IntKind.wrap .i64 ((List.length v3:Int) - 1))]?.getD [])))) == true)) || decide (0 ≤ v5 ∧ v5 < (List.length v0:Int)))) = true then (if ((!(((decide (v4 < 0)) == false) && ((bif ((List.length v3:Int) == 0) then true else (!(Op.bytesLess ((v0)[Int.toNat v5]?.getD []) ((v3)[Int.toNat (IntKind.wrap .i64 ((List.length v3:Int) - 1))]?.getD []) || ((v0)[Int.toNat v5]?.getD []) == ((v3)[Int.toNat (IntKind.wrap .i64 ((List.length v3:Int) - 1))]?.getD [])))) == true)) || decide (0 ≤ v4 ∧ v4 < (List.length v0:Int)))) = true then (lett ((bif (bif ((List.length v3:Int) == 0) then true else (!(Op.bytesLess ((v0)[Int.toNat v5]?.getD []) ((v3)[Int.toNat (IntKind.wrap .i64 ((List.length v3:Int) - 1))]?.getD []) || ((v0)[Int.toNat v5]?.getD []) == ((v3)[Int.toNat (IntKind.wrap .i64 ((List.length v3:Int) - 1))]?.getD [])))) then (bif (decide (v4 < 0)) then true else (Op.bytesLess ((v0)[Int.toNat v5]?.getD []) ((v0)[Int.toNat v4]?.getD []))) else false):Bool) fun x1 =>
 if x1 = true then some v5
 else some v4) else none) else none) else none) else none
abbrev ex22 (x0:List (List UInt8)) (x1:List (List UInt8)) (x2:Int):=(bif ((List.length x0:Int) == 0) then true else (!(Op.bytesLess ((x1)[Int.toNat x2]?.getD []) ((x0)[Int.toNat (IntKind.wrap .i64 ((List.length x0:Int) - 1))]?.getD []) || ((x1)[Int.toNat x2]?.getD []) == ((x0)[Int.toNat (IntKind.wrap .i64 ((List.length x0:Int) - 1))]?.getD []))))
theorem ok_ref02_Sorted_j3 (n:Nat) (v0:List (List UInt8)) (v3:List (List UInt8)) (v4:Int) (v5:Int) (o:Int) (h:ref02_Sorted_j3 n v0 v3 v4 v5 = some o) {F0:Fz} {w0:Pt Tryd.prog} {Q:Exit → Act → World → Prop} (hQ:To 55 F0 w0 [(0,ls v0),(3,.row 1003),(4,vi o),(5,vi v5)] [(1003,9,[rc1 v3])] .normal Q):Wp Tryd.prog 55 F0 w0 [(0,ls v0),(3,.row 1003),(4,vi v4),(5,vi v5)] [(1003,9,[rc1 v3])] (cA (cB (cI (cI (cB (cA (cB (cI (cI (cI (cB (cB (cF Tryd.f44))))))))))))) Q:=by
 unfold ref02_Sorted_j3 at h
 refine Wp.block (Wp.seq ?_)
 obtain ⟨hc2,h⟩:=chk_of h
 obtain ⟨hc3,h⟩:=chk_of h
 obtain ⟨hc4,h⟩:=chk_of h
 obtain ⟨hc5,h⟩:=chk_of h
 obtain ⟨x1,hx1,h⟩:=lett_of h
 refine Wp.regionD hm hΓ [] [0,3,4,5,43] [1003] (K':=[(0,ls v0),(3,.row 1003),(4,vi v4),(5,vi v5),(43,vb (bif (ex22 v3 v0 v5) then (bif (decide (v4 < 0)) then true else (Op.bytesLess ((v0)[Int.toNat v5]?.getD []) ((v0)[Int.toNat v4]?.getD []))) else false))]) (L':=[(1003,9,[rc1 v3])]) (ob:=[(!(((List.length v3:Int) == 0) == false) || decide (0 ≤ v5 ∧ v5 < (List.length v0:Int))) = true,(!(((List.length v3:Int) == 0) == false) || decide (0 ≤ (IntKind.wrap .i64 ((List.length v3:Int) - 1)) ∧ (IntKind.wrap .i64 ((List.length v3:Int) - 1)) < (List.length v3:Int))) = true,(!(((List.length v3:Int) == 0) == false) || decide (0 ≤ (IntKind.wrap .i64 ((List.length v3:Int) - 1)) ∧ (IntKind.wrap .i64 ((List.length v3:Int) - 1)) < (List.length v3:Int))) = true,(!(((decide (v4 < 0)) == false) && ((ex22 v3 v0 v5) == true)) || decide (0 ≤ v5 ∧ v5 < (List.length v0:Int))) = true,(!(((decide (v4 < 0)) == false) && ((ex22 v3 v0 v5) == true)) || decide (0 ≤ v4 ∧ v4 < (List.length v0:Int))) = true]) (by kernel_rfl) (AllP.cons hc2 (AllP.cons hc3 (AllP.cons hc3 (AllP.cons hc4 (AllP.cons hc5 AllP.nil))))) (To.eq (K':=[(0,ls v0),(3,.row 1003),(4,vi v4),(5,vi v5),(43,vb x1)]) (L':=[(1003,9,[rc1 v3])]) (by cases hx1; rfl) (by cases hx1; rfl) (To.thenN (cn h (fun h=>?_) (fun h=>?_))))
 ·refine rg [0,3,4,5] [1003] [(0,ls v0),(3,.row 1003),(4,vi v5),(5,vi v5)] [(1003,9,[rc1 v3])] (To.blockN ?_)
  cases h
  exact hQ
 ·refine Wp.skip (To.blockN (kt [0,3,4,5] [1003] [(0,ls v0),(3,.row 1003),(4,vi v4),(5,vi v5)] [(1003,9,[rc1 v3])] ?_))
  cases h
  exact hQ
def ref02_Sorted_l2 (n:Nat) (v0:List (List UInt8)) (v3:List (List UInt8)):Nat → Int → Int → Option (Int)
 | 0,_,_=>none
 | k + 1,v4,v5=>if (decide (v5 < (List.length v0:Int))) = true then ((ref02_Sorted_j3 n v0 v3 v4 v5).bind fun o1 =>
 ref02_Sorted_l2 n v0 v3 k o1 (IntKind.wrap .i64 (v5 + 1)))
 else some v4
theorem ok_ref02_Sorted_l2 (n:Nat) (v0:List (List UInt8)) (v3:List (List UInt8)) {F0:Fz} {w0:Pt Tryd.prog} {Q:Exit → Act → World → Prop} (k:Nat):∀ (v4:Int) (v5:Int) (o:Int),ref02_Sorted_l2 n v0 v3 k v4 v5 = some o → To 55 F0 w0 [(0,ls v0),(3,.row 1003),(4,vi o)] [(1003,9,[rc1 v3])] (.exit 2) Q → WL Tryd.prog 55 F0 w0 [(0,ls v0),(3,.row 1003),(4,vi v4),(5,vi v5)] [(1003,9,[rc1 v3])] (cI (cI (cB (cA (cB (cI (cI (cI (cB (cB (cF Tryd.f44))))))))))) Q:=by
 induction k with
 | zero=>intro v4 v5 o h; cases h
 | succ k ih =>
  intro v4 v5 o h hQ
  rw [ref02_Sorted_l2] at h
  refine WL.round (Wp.seq (Wp.seq (rg [0,3,4,5,10] [1003] [(0,ls v0),(3,.row 1003),(4,vi v4),(5,vi v5),(10,vb (decide (v5 < (List.length v0:Int))))] [(1003,9,[rc1 v3])] (To.thenN (cn h (fun h=>?_) (fun h=>?_))))))
  ·refine Wp.skip (To.thenN (Wp.seq ?_))
   obtain ⟨o1,ho1,h⟩:=bind_of h
   refine kw [0,3,4,5] [1003] [(0,ls v0),(3,.row 1003),(4,vi v4),(5,vi v5)] [(1003,9,[rc1 v3])] (ok_ref02_Sorted_j3 n v0 v3 v4 v5 o1 ho1 (To.thenN (rg [0,3,4,5] [1003] [(0,ls v0),(3,.row 1003),(4,vi o1),(ex8 v5)] [(1003,9,[rc1 v3])] (kt [0,3,4,5] [1003] [(0,ls v0),(3,.row 1003),(4,vi o1),(ex8 v5)] [(1003,9,[rc1 v3])] (To.again ?_)))))
   exact ih o1 (IntKind.wrap .i64 (v5 + 1)) _ h hQ
  ·refine Wp.exit (To.thenX (To.thenX (kt [0,3,4] [1003] [(0,ls v0),(3,.row 1003),(4,vi v4)] [(1003,9,[rc1 v3])] ?_)))
   cases h
   exact hQ
def ref02_Sorted_l1 (n:Nat) (v0:List (List UInt8)):Nat → (List (List UInt8)) → Option ((List (List UInt8)))
 | 0,_=>none
 | k + 1,v3=>(ref02_Sorted_l2 n v0 v3 n (-1) 0).bind fun o1 =>
 if (decide (o1 < 0)) = true then some v3
 else (if (decide (0 ≤ o1 ∧ o1 < (List.length v0:Int))) = true then (if (decide ((List.length v3 + List.length ([((v0)[Int.toNat o1]?.getD [])]:List (List UInt8))) * (16 + 1) ≤ limit)) = true then (ref02_Sorted_l1 n v0 k (v3 ++ ([((v0)[Int.toNat o1]?.getD [])]:List (List UInt8)))) else none) else none)
theorem ok_ref02_Sorted_l1 (n:Nat) (v0:List (List UInt8)) {F0:Fz} {w0:Pt Tryd.prog} {Q:Exit → Act → World → Prop} (k:Nat):∀ (v3:List (List UInt8)) (o:(List (List UInt8))),ref02_Sorted_l1 n v0 k v3 = some o → To 55 F0 w0 [(2,.row 1002)] [(1002,9,[rc1 o])] .ret Q → WL Tryd.prog 55 F0 w0 [(0,ls v0),(3,.row 1003)] [(1003,9,[rc1 v3])] (cI (cI (cB (cB (cF Tryd.f44))))) Q:=by
 induction k with
 | zero=>intro v3 o h; cases h
 | succ k ih =>
  intro v3 o h hQ
  rw [ref02_Sorted_l1] at h
  refine WL.round (Wp.block (Wp.seq (rg [0,3,4] [1003] [(0,ls v0),(3,.row 1003),(4,vi (-1))] [(1003,9,[rc1 v3])] (To.thenN (Wp.seq (Wp.seq (rg [0,3,4,5] [1003] [(0,ls v0),(3,.row 1003),(4,vi (-1)),(5,vi 0)] [(1003,9,[rc1 v3])] (To.thenN (Wp.block ?_)))))))))
  obtain ⟨o1,ho1,h⟩:=bind_of h
  refine kw [0,3,4,5] [1003] [(0,ls v0),(3,.row 1003),(4,vi (-1)),(5,vi 0)] [(1003,9,[rc1 v3])] (Wp.loopL (ok_ref02_Sorted_l2 n v0 v3 n (-1) 0 o1 ho1 (To.blockX (To.thenN (Wp.seq (Wp.seq (rg [0,3,4,46] [1003] [(0,ls v0),(3,.row 1003),(4,vi o1),(46,vb (decide (o1 < 0)))] [(1003,9,[rc1 v3])] (To.thenN (cn h (fun h=>?_) (fun h=>?_))))))))))
  ·refine Wp.seq (rg [2] [1003] [(2,.row 1003)] [(1003,9,[rc1 v3])] (To.thenN (Wp.ret (To.thenR (To.blockR (To.thenR (nt [2] [1003] [(1003,1002)] [2] [1002] [(2,.row 1002)] [(1002,9,[rc1 v3])] ?_)))))))
   cases h
   exact hQ
  ·refine Wp.skip (To.thenN ?_)
   obtain ⟨hc2,h⟩:=chk_of h
   obtain ⟨hc3,h⟩:=chk_of h
   refine rr [] [(5,ls ([((v0)[Int.toNat o1]?.getD [])])),(6,ls (v3 ++ ([((v0)[Int.toNat o1]?.getD [])]:List (List UInt8))))] [] [0,3] [54] [(0,ls v0),(3,.row 54)] [(54,9,[rc1 (v3 ++ ([((v0)[Int.toNat o1]?.getD [])]:List (List UInt8)))])] [_,(MkOb 1 [.str ((v0)[Int.toNat o1]?.getD [])] 1 (ls ([((v0)[Int.toNat o1]?.getD [])])) ∧ GoodR (ls ([((v0)[Int.toNat o1]?.getD [])]))),_,(AppOb [] E_string v3 (List.flatMap E_string ([((v0)[Int.toNat o1]?.getD [])]:List (List UInt8))) (List.length ([((v0)[Int.toNat o1]?.getD [])]:List (List UInt8))) (ls (v3 ++ ([((v0)[Int.toNat o1]?.getD [])]:List (List UInt8)))) ∧ GoodR (ls (v3 ++ ([((v0)[Int.toNat o1]?.getD [])]:List (List UInt8)))))] (AllP.cons hc2 (AllP.cons (mkOb (by kernel_rfl) rfl (by kernel_rfl) (good_E_string _)) (AllP.cons hc3 (AllP.cons (appOb rfl rfl (good_E_string _)) AllP.nil)))) (To.blockN (nt [0,3] [54] [(54,1003)] [0,3] [1003] [(0,ls v0),(3,.row 1003)] [(1003,9,[rc1 (v3 ++ ([((v0)[Int.toNat o1]?.getD [])]:List (List UInt8)))])] (To.again ?_)))
   exact ih (v3 ++ ([((v0)[Int.toNat o1]?.getD [])]:List (List UInt8))) _ h hQ
def ref02_Sorted (n:Nat) (a0:List (List UInt8)):Option ((List (List UInt8))) :=
 (ref02_Sorted_l1 n a0 n ([]:List (List UInt8))).bind fun o1 =>
 some o1
abbrev rc19 (l:List (List UInt8)):D:=.rowc true (α:=List UInt8) [] E_string l
theorem ok_ref02_Sorted (n:Nat) (a0:List (List UInt8)) (r:(List (List UInt8))) (h:ref02_Sorted n a0 = some r):CallsX Tryd.prog 44 [ls a0] (ls r):=by
 unfold ref02_Sorted at h
 refine xo Tryd.f44 rfl fun F0 w0 _=>?_
 refine Wp.seq (rg [0] [] [(0,ls a0)] [] (To.thenN (Wp.seq (rr [] [(0,ls [])] [] [0,3] [6] [(0,ls a0),(3,.row 6)] [(6,9,[rc1 []])] [(MkOb 1 [] 0 (ls []) ∧ GoodR (ls []))] (AllP.cons (mkOb (by kernel_rfl) rfl (by kernel_rfl) (good_E_string _)) AllP.nil) (To.thenN (Wp.block ?_))))))
 obtain ⟨o1,ho1,h⟩:=bind_of h
 refine nw [0,3] [6] [(6,1003)] [0,3] [1003] [(0,ls a0),(3,.row 1003)] [(1003,9,[rc1 []])] (Wp.loopL (ok_ref02_Sorted_l1 n a0 n ([]:List (List UInt8)) o1 ho1 (To.blockR (kt [2] [1002] [(2,.row 1002)] [(1002,9,[rc1 o1])] (To.pre (St.settle (ks:=[1002]) (kk:=[2]) (kl:=[1002]) (K':=[(2,.row 1002)]) (L':=[(1002,9,[rc19 o1])]) (by kernel_rfl)) (To.pre (St.sealK [2] (K':=[(2,ls o1)]) (by kernel_rfl)) ?_))))))
 cases h
 exact To.done hΓ (by kernel_rfl)
def ref12_Last_l1 (n:Nat) (v0:List (S_api_Var)) (v1:List UInt8):Nat → Int → Option (Sum (Unit) ((List UInt8) × Bool))
 | 0,_=>none
 | k + 1,v6=>if (decide (v6 ≥ 0)) = true then (if (decide (0 ≤ v6 ∧ v6 < (List.length v0:Int))) = true then (if ((((v0)[Int.toNat v6]?.getD (S_api_Var.mk [] [])).f_Key) == v1) = true then (if (decide (0 ≤ v6 ∧ v6 < (List.length v0:Int))) = true then (some (.inr (((v0)[Int.toNat v6]?.getD (S_api_Var.mk [] [])).f_Val,true))) else none)
 else (ref12_Last_l1 n v0 v1 k (IntKind.wrap .i64 (v6 - 1)))) else none)
 else (some (.inl ()))
theorem ok_ref12_Last_l1 (n:Nat) (v0:List (S_api_Var)) (v1:List UInt8) {F0:Fz} {w0:Pt Tryd.prog} {Q:Exit → Act → World → Prop} (k:Nat):∀ (v6:Int) (o:Sum (Unit) ((List UInt8) × Bool)),ref12_Last_l1 n v0 v1 k v6 = some o → (Sum.elim (fun s=>To 26 F0 w0 [] [] (.exit 0) Q) (fun s=>To 26 F0 w0 [(4,.str s.1),(5,vb s.2)] [] .ret Q)) o → WL Tryd.prog 26 F0 w0 [(0,rs9 v0),(1,.str v1),(6,vi v6)] [] (cI (cI (cB (cA (cB (cF Tryd.f45)))))) Q:=by
 induction k with
 | zero=>intro v6 o h; cases h
 | succ k ih =>
  intro v6 o h hQ
  rw [ref12_Last_l1] at h
  refine WL.round (Wp.seq (Wp.seq (rg [0,1,6,11] [] [(0,rs9 v0),(1,.str v1),(6,vi v6),(11,vb (decide (v6 ≥ 0)))] [] (To.thenN (cn h (fun h=>?_) (fun h=>?_))))))
  ·refine Wp.skip (To.thenN (Wp.seq (Wp.block (Wp.seq ?_))))
   obtain ⟨hc2,h⟩:=chk_of h
   refine r0 [0,1,6,20] [] [(0,rs9 v0),(1,.str v1),(6,vi v6),(20,vb (((ex5 v0 v6).f_Key) == v1))] [] (AllP.cons hc2 AllP.nil) (To.thenN (cn h (fun h=>?_) (fun h=>?_)))
   ·refine Wp.seq ?_
    obtain ⟨hc1,h⟩:=chk_of h
    refine r0 [4,5] [] [(4,.str ((ex5 v0 v6).f_Val)),(5,vb true)] [] (AllP.cons hc1 AllP.nil) (To.thenN (Wp.ret (To.blockR (To.thenR (To.thenR ?_)))))
    cases h
    exact hQ
   ·refine Wp.skip (To.blockN (To.thenN (rg [0,1,6] [] [(0,rs9 v0),(1,.str v1),(6,vi (IntKind.wrap .i64 (v6 - 1)))] [] (kt [0,1,6] [] [(0,rs9 v0),(1,.str v1),(6,vi (IntKind.wrap .i64 (v6 - 1)))] [] (To.again ?_)))))
    exact ih (IntKind.wrap .i64 (v6 - 1)) _ h hQ
  ·refine Wp.exit (To.thenX (To.thenX (kt [] [] [] [] ?_)))
   cases h
   exact hQ
def ref12_Last (n:Nat) (a0:List (S_api_Var)) (a1:List UInt8):Option ((List UInt8) × Bool) :=
 (ref12_Last_l1 n a0 a1 n (IntKind.wrap .i64 ((List.length a0:Int) - 1))).bind fun o1 =>
 (Sum.elim (fun o1=>some ([],false)) (fun o1=>some (o1.1,o1.2))) o1
theorem ok_ref12_Last (n:Nat) (a0:List (S_api_Var)) (a1:List UInt8) (r:(List UInt8) × Bool) (h:ref12_Last n a0 a1 = some r):CallsX Tryd.prog 45 [rs9 a0,.str a1] (.tup [.str r.1,vb r.2]):=by
 unfold ref12_Last at h
 refine xo Tryd.f45 rfl fun F0 w0 _=>?_
 refine Wp.seq (rg [0,1] [] [(0,rs9 a0),(1,.str a1)] [] (To.thenN (Wp.seq (Wp.seq (rg [0,1,6] [] [(0,rs9 a0),(1,.str a1),(6,vi (IntKind.wrap .i64 ((List.length a0:Int) - 1)))] [] (To.thenN (Wp.block ?_)))))))
 obtain ⟨o1,ho1,h⟩:=bind_of h
 refine kw [0,1,6] [] [(0,rs9 a0),(1,.str a1),(6,vi (IntKind.wrap .i64 ((List.length a0:Int) - 1)))] [] (Wp.loopL (ok_ref12_Last_l1 n a0 a1 n (IntKind.wrap .i64 ((List.length a0:Int) - 1)) o1 ho1 ?_))
 rcases o1 with o1 | o1
 ·replace h:=sum_l h
  refine To.blockX (To.thenN (Wp.seq (rg [4,5] [] [(4,.str []),(5,vb false)] [] (To.thenN (Wp.ret ?_)))))
  cases h
  exact To.done hΓ (by kernel_rfl)
 ·replace h:=sum_r h
  refine To.blockR (To.thenR ?_)
  cases h
  exact To.done hΓ (by kernel_rfl)
def ref12_Gathered_j2 (n:Nat) (v0:List (S_api_Var)) (v3:List (List UInt8)) (v4:Int):Option ((List (List UInt8))) :=
 if (decide (0 ≤ v4 ∧ v4 < (List.length v0:Int))) = true then ((ref02_Variable n (((v0)[Int.toNat v4]?.getD (S_api_Var.mk [] [])).f_Key)).bind fun r1 =>
 if r1 = true then (if (decide (0 ≤ v4 ∧ v4 < (List.length v0:Int))) = true then (if (decide ((List.length v3 + List.length ([((v0)[Int.toNat v4]?.getD (S_api_Var.mk [] [])).f_Key]:List (List UInt8))) * (16 + 1) ≤ limit)) = true then (some (v3 ++ ([((v0)[Int.toNat v4]?.getD (S_api_Var.mk [] [])).f_Key]:List (List UInt8)))) else none) else none)
 else some v3) else none
abbrev ex32 (x0:List (S_api_Var)) (x1:Int):=([(ex5 x0 x1).f_Key]:List (List UInt8))
theorem ok_ref12_Gathered_j2 (n:Nat) (v0:List (S_api_Var)) (v3:List (List UInt8)) (v4:Int) (o:(List (List UInt8))) (h:ref12_Gathered_j2 n v0 v3 v4 = some o) {F0:Fz} {w0:Pt Tryd.prog} {Q:Exit → Act → World → Prop} (hQ:To 58 F0 w0 [(0,rs9 v0),(3,.row 1003),(4,vi v4)] [(1003,9,[rc1 o])] .normal Q):Wp Tryd.prog 58 F0 w0 [(0,rs9 v0),(3,.row 1003),(4,vi v4)] [(1003,9,[rc1 v3])] (cA (cB (cI (cI (cB (cA (cB (cB (cF Tryd.f26))))))))) Q:=by
 unfold ref12_Gathered_j2 at h
 refine Wp.block (Wp.seq ?_)
 obtain ⟨hc4,h⟩:=chk_of h
 obtain ⟨r1,hr1,h⟩:=bind_of h
 refine rr [] [(5,vb r1)] [] [0,3,4,21] [1003] [(0,rs9 v0),(3,.row 1003),(4,vi v4),(21,vb r1)] [(1003,9,[rc1 v3])] [_,_] (AllP.cons hc4 (AllP.cons (c1 (ok_ref02_Variable n ((ex5 v0 v4).f_Key) _ hr1)) AllP.nil)) (To.thenN (cn h (fun h=>?_) (fun h=>?_)))
 ·obtain ⟨hc2,h⟩:=chk_of h
  obtain ⟨hc3,h⟩:=chk_of h
  refine rr [] [(6,ls ([(ex5 v0 v4).f_Key])),(7,ls (v3 ++ (ex32 v0 v4)))] [] [0,3,4] [29] [(0,rs9 v0),(3,.row 29),(4,vi v4)] [(29,9,[rc1 (v3 ++ (ex32 v0 v4))])] [_,(MkOb 1 [.str ((ex5 v0 v4).f_Key)] 1 (ls ([(ex5 v0 v4).f_Key])) ∧ GoodR (ls ([(ex5 v0 v4).f_Key]))),_,(AppOb [] E_string v3 (List.flatMap E_string (ex32 v0 v4)) (List.length (ex32 v0 v4)) (ls (v3 ++ (ex32 v0 v4))) ∧ GoodR (ls (v3 ++ (ex32 v0 v4))))] (AllP.cons hc2 (AllP.cons (mkOb (by kernel_rfl) rfl (by kernel_rfl) (good_E_string _)) (AllP.cons hc3 (AllP.cons (appOb rfl rfl (good_E_string _)) AllP.nil)))) (To.blockN (nt [0,3,4] [29] [(29,1003)] [0,3,4] [1003] [(0,rs9 v0),(3,.row 1003),(4,vi v4)] [(1003,9,[rc1 (v3 ++ (ex32 v0 v4))])] ?_))
  cases h
  exact hQ
 ·refine Wp.skip (To.blockN (kt [0,3,4] [1003] [(0,rs9 v0),(3,.row 1003),(4,vi v4)] [(1003,9,[rc1 v3])] ?_))
  cases h
  exact hQ
def ref12_Gathered_l1 (n:Nat) (v0:List (S_api_Var)):Nat → (List (List UInt8)) → Int → Option ((List (List UInt8)))
 | 0,_,_=>none
 | k + 1,v3,v4=>if (decide (v4 < (List.length v0:Int))) = true then ((ref12_Gathered_j2 n v0 v3 v4).bind fun o1 =>
 ref12_Gathered_l1 n v0 k o1 (IntKind.wrap .i64 (v4 + 1)))
 else some v3
theorem ok_ref12_Gathered_l1 (n:Nat) (v0:List (S_api_Var)) {F0:Fz} {w0:Pt Tryd.prog} {Q:Exit → Act → World → Prop} (k:Nat):∀ (v3:List (List UInt8)) (v4:Int) (o:(List (List UInt8))),ref12_Gathered_l1 n v0 k v3 v4 = some o → To 58 F0 w0 [(0,rs9 v0),(3,.row 1003)] [(1003,9,[rc1 o])] (.exit 0) Q → WL Tryd.prog 58 F0 w0 [(0,rs9 v0),(3,.row 1003),(4,vi v4)] [(1003,9,[rc1 v3])] (cI (cI (cB (cA (cB (cB (cF Tryd.f26))))))) Q:=by
 induction k with
 | zero=>intro v3 v4 o h; cases h
 | succ k ih =>
  intro v3 v4 o h hQ
  rw [ref12_Gathered_l1] at h
  refine WL.round (Wp.seq (Wp.seq (rg [0,3,4,13] [1003] [(0,rs9 v0),(3,.row 1003),(4,vi v4),(13,vb (ex7 v4 v0))] [(1003,9,[rc1 v3])] (To.thenN (cn h (fun h=>?_) (fun h=>?_))))))
  ·refine Wp.skip (To.thenN (Wp.seq ?_))
   obtain ⟨o1,ho1,h⟩:=bind_of h
   refine kw [0,3,4] [1003] [(0,rs9 v0),(3,.row 1003),(4,vi v4)] [(1003,9,[rc1 v3])] (ok_ref12_Gathered_j2 n v0 v3 v4 o1 ho1 (To.thenN (rg [0,3,4] [1003] [(0,rs9 v0),(3,.row 1003),(4,vi (IntKind.wrap .i64 (v4 + 1)))] [(1003,9,[rc1 o1])] (kt [0,3,4] [1003] [(0,rs9 v0),(3,.row 1003),(4,vi (IntKind.wrap .i64 (v4 + 1)))] [(1003,9,[rc1 o1])] (To.again ?_)))))
   exact ih o1 (IntKind.wrap .i64 (v4 + 1)) _ h hQ
  ·refine Wp.exit (To.thenX (To.thenX (kt [0,3] [1003] [(0,rs9 v0),(3,.row 1003)] [(1003,9,[rc1 v3])] ?_)))
   cases h
   exact hQ
def ref12_Gathered_l3 (n:Nat) (v0:List (S_api_Var)) (v3:List (List UInt8)):Nat → (List (S_api_Var)) → Int → Option ((List (S_api_Var)))
 | 0,_,_=>none
 | k + 1,v5,v6=>if (decide (v6 < (List.length v3:Int))) = true then (if (decide (0 ≤ v6 ∧ v6 < (List.length v3:Int))) = true then ((ref12_Last n v0 ((v3)[Int.toNat v6]?.getD [])).bind fun r3 =>
 if (decide (0 ≤ v6 ∧ v6 < (List.length v3:Int))) = true then (if (decide ((List.length v5 + List.length ([(S_api_Var.mk ((v3)[Int.toNat v6]?.getD []) r3.1)]:List (S_api_Var))) * (32 + 1) ≤ limit)) = true then (ref12_Gathered_l3 n v0 v3 k (v5 ++ ([(S_api_Var.mk ((v3)[Int.toNat v6]?.getD []) r3.1)]:List (S_api_Var))) (IntKind.wrap .i64 (v6 + 1))) else none) else none) else none)
 else some v5
theorem ok_ref12_Gathered_l3 (n:Nat) (v0:List (S_api_Var)) (v3:List (List UInt8)) {F0:Fz} {w0:Pt Tryd.prog} {Q:Exit → Act → World → Prop} (k:Nat):∀ (v5:List (S_api_Var)) (v6:Int) (o:(List (S_api_Var))),ref12_Gathered_l3 n v0 v3 k v5 v6 = some o → To 58 F0 w0 [(5,.row 1005)] [(1005,43,[rc17 o])] (.exit 2) Q → WL Tryd.prog 58 F0 w0 [(0,rs9 v0),(3,ls v3),(5,.row 1005),(6,vi v6)] [(1005,43,[rc17 v5])] (cI (cI (cB (cA (cB (cB (cB (cB (cB (cF Tryd.f26)))))))))) Q:=by
 induction k with
 | zero=>intro v5 v6 o h; cases h
 | succ k ih =>
  intro v5 v6 o h hQ
  rw [ref12_Gathered_l3] at h
  refine WL.round (Wp.seq (Wp.seq (rg [0,3,5,6,36] [1005] [(0,rs9 v0),(3,ls v3),(5,.row 1005),(6,vi v6),(36,vb (decide (v6 < (List.length v3:Int))))] [(1005,43,[rc17 v5])] (To.thenN (cn h (fun h=>?_) (fun h=>?_))))))
  ·refine Wp.skip (To.thenN (Wp.seq (Wp.block (Wp.seq ?_))))
   obtain ⟨hc6,h⟩:=chk_of h
   obtain ⟨r3,hr3,h⟩:=bind_of h
   refine rr [] [(5,.tup [.str r3.1,vb r3.2])] [] [0,3,5,6,7] [1005] [(0,rs9 v0),(3,ls v3),(5,.row 1005),(6,vi v6),(7,.str r3.1)] [(1005,43,[rc17 v5])] [_,_] (AllP.cons hc6 (AllP.cons (c1 (ok_ref12_Last n v0 ((v3)[Int.toNat v6]?.getD []) _ hr3)) AllP.nil)) (To.thenN ?_)
   obtain ⟨hc4,h⟩:=chk_of h
   obtain ⟨hc5,h⟩:=chk_of h
   refine rr [] [(7,rs9 ([(S_api_Var.mk ((v3)[Int.toNat v6]?.getD []) r3.1)])),(8,rs9 (v5 ++ ([(S_api_Var.mk ((v3)[Int.toNat v6]?.getD []) r3.1)]:List (S_api_Var))))] [] [0,3,5,6] [56] [(0,rs9 v0),(3,ls v3),(5,.row 56),(6,vi v6)] [(56,43,[rc17 (v5 ++ ([(S_api_Var.mk ((v3)[Int.toNat v6]?.getD []) r3.1)]:List (S_api_Var)))])] [_,(MkOb 2 [.str ((v3)[Int.toNat v6]?.getD []),.str r3.1] 1 (rs9 ([(S_api_Var.mk ((v3)[Int.toNat v6]?.getD []) r3.1)])) ∧ GoodR (rs9 ([(S_api_Var.mk ((v3)[Int.toNat v6]?.getD []) r3.1)]))),_,(AppOb zx8 E_api_Var v5 (List.flatMap E_api_Var ([(S_api_Var.mk ((v3)[Int.toNat v6]?.getD []) r3.1)]:List (S_api_Var))) (List.length ([(S_api_Var.mk ((v3)[Int.toNat v6]?.getD []) r3.1)]:List (S_api_Var))) (rs9 (v5 ++ ([(S_api_Var.mk ((v3)[Int.toNat v6]?.getD []) r3.1)]:List (S_api_Var)))) ∧ GoodR (rs9 (v5 ++ ([(S_api_Var.mk ((v3)[Int.toNat v6]?.getD []) r3.1)]:List (S_api_Var)))))] (AllP.cons hc4 (AllP.cons (mkOb (by kernel_rfl) rfl (by kernel_rfl) (good_E_api_Var _)) (AllP.cons hc5 (AllP.cons (appOb rfl rfl (good_E_api_Var _)) AllP.nil)))) (To.blockN (To.thenN (rg [0,3,5,6] [56] [(0,rs9 v0),(3,ls v3),(5,.row 56),(6,vi (IntKind.wrap .i64 (v6 + 1)))] [(56,43,[rc17 (v5 ++ ([(S_api_Var.mk ((v3)[Int.toNat v6]?.getD []) r3.1)]:List (S_api_Var)))])] (nt [0,3,5,6] [56] [(56,1005)] [0,3,5,6] [1005] [(0,rs9 v0),(3,ls v3),(5,.row 1005),(6,vi (IntKind.wrap .i64 (v6 + 1)))] [(1005,43,[rc17 (v5 ++ ([(S_api_Var.mk ((v3)[Int.toNat v6]?.getD []) r3.1)]:List (S_api_Var)))])] (To.again ?_)))))
   exact ih (v5 ++ ([(S_api_Var.mk ((v3)[Int.toNat v6]?.getD []) r3.1)]:List (S_api_Var))) (IntKind.wrap .i64 (v6 + 1)) _ h hQ
  ·refine Wp.exit (To.thenX (To.thenX (kt [5] [1005] [(5,.row 1005)] [(1005,43,[rc17 v5])] ?_)))
   cases h
   exact hQ
def ref12_Gathered (n:Nat) (a0:List (S_api_Var)):Option ((List (S_api_Var))) :=
 (ref12_Gathered_l1 n a0 n ([]:List (List UInt8)) 0).bind fun o1 =>
 (ref02_Sorted n o1).bind fun r2 =>
 (ref12_Gathered_l3 n a0 r2 n ([]:List (S_api_Var)) 0).bind fun o3 =>
 some o3
theorem ok_ref12_Gathered (n:Nat) (a0:List (S_api_Var)) (r:(List (S_api_Var))) (h:ref12_Gathered n a0 = some r):CallsX Tryd.prog 26 [rs9 a0] (rs9 r):=by
 unfold ref12_Gathered at h
 refine xo Tryd.f26 rfl fun F0 w0 _=>?_
 refine Wp.seq (rg [0] [] [(0,rs9 a0)] [] (To.thenN (Wp.seq (rr [] [(0,ls [])] [] [0,3] [9] [(0,rs9 a0),(3,.row 9)] [(9,9,[rc1 []])] [(MkOb 1 [] 0 (ls []) ∧ GoodR (ls []))] (AllP.cons (mkOb (by kernel_rfl) rfl (by kernel_rfl) (good_E_string _)) AllP.nil) (To.thenN (Wp.seq (Wp.seq (rg [0,3,4] [9] [(0,rs9 a0),(3,.row 9),(4,vi 0)] [(9,9,[rc1 []])] (To.thenN (Wp.block ?_))))))))))
 obtain ⟨o1,ho1,h⟩:=bind_of h
 refine nw [0,3,4] [9] [(9,1003)] [0,3,4] [1003] [(0,rs9 a0),(3,.row 1003),(4,vi 0)] [(1003,9,[rc1 []])] (Wp.loopL (ok_ref12_Gathered_l1 n a0 n ([]:List (List UInt8)) 0 o1 ho1 (To.blockX (To.thenN (Wp.seq ?_)))))
 obtain ⟨r2,hr2,h⟩:=bind_of h
 refine rc [(1,[1003])] 1 [0,3] [] [(0,rs9 a0),(3,ls r2)] [] (ok_ref02_Sorted n o1 _ hr2) (To.thenN (Wp.seq (rr [] [(0,rs9 [])] [] [0,3,5] [32] [(0,rs9 a0),(3,ls r2),(5,.row 32)] [(32,43,[rc17 []])] [(MkOb 2 [] 0 (rs9 []) ∧ GoodR (rs9 []))] (AllP.cons (mkOb (by kernel_rfl) rfl (by kernel_rfl) (good_E_api_Var _)) AllP.nil) (To.thenN (Wp.seq (Wp.seq (rg [0,3,5,6] [32] [(0,rs9 a0),(3,ls r2),(5,.row 32),(6,vi 0)] [(32,43,[rc17 []])] (To.thenN (Wp.block ?_)))))))))
 obtain ⟨o3,ho3,h⟩:=bind_of h
 refine nw [0,3,5,6] [32] [(32,1005)] [0,3,5,6] [1005] [(0,rs9 a0),(3,ls r2),(5,.row 1005),(6,vi 0)] [(1005,43,[rc17 []])] (Wp.loopL (ok_ref12_Gathered_l3 n a0 r2 n ([]:List (S_api_Var)) 0 o3 ho3 (To.blockX (To.thenN (Wp.seq (rg [2] [1005] [(2,.row 1005)] [(1005,43,[rc17 o3])] (To.thenN (Wp.ret (To.pre (St.settle (ks:=[1005]) (kk:=[2]) (kl:=[1005]) (K':=[(2,.row 1005)]) (L':=[(1005,43,[rc18 o3])]) (by kernel_rfl)) (To.pre (St.sealK [2] (K':=[(2,rs9 o3)]) (by kernel_rfl)) ?_))))))))))
 cases h
 exact To.done hΓ (by kernel_rfl)
def ref12_Of (n:Nat) (a0:List (S_api_Var)):Option ((List (S_api_Var))) :=
 (ref12_Gathered n a0).bind fun r1 =>
 if (decide ((List.length r1:Int) > 64)) = true then (if (decide (0 ≤ (64:Int) ∧ (64:Int) ≤ (List.length r1:Int))) = true then (some (List.take (Int.toNat 64) r1)) else none)
 else some r1
theorem ok_ref12_Of (n:Nat) (a0:List (S_api_Var)) (r:(List (S_api_Var))) (h:ref12_Of n a0 = some r):CallsX Tryd.prog 9 [rs9 a0] (rs9 r):=by
 unfold ref12_Of at h
 refine xo Tryd.f9 rfl fun F0 w0 _=>?_
 refine Wp.seq (rg [0] [] [(0,rs9 a0)] [] (To.thenN (Wp.seq ?_)))
 obtain ⟨r1,hr1,h⟩:=bind_of h
 refine rc [] 1 [3] [] [(3,rs9 r1)] [] (ok_ref12_Gathered n a0 _ hr1) (To.thenN (Wp.seq (Wp.seq (rg [3,8] [] [(3,rs9 r1),(8,vb (decide ((List.length r1:Int) > 64)))] [] (To.thenN (cn h (fun h=>?_) (fun h=>?_)))))))
 ·refine Wp.seq ?_
  obtain ⟨hc2,h⟩:=chk_of h
  refine r0 [2] [] [(2,rs9 (List.take (Int.toNat 64) r1))] [] (AllP.cons hc2 AllP.nil) (To.thenN (Wp.ret (To.thenR ?_)))
  cases h
  exact To.done hΓ (by kernel_rfl)
 ·refine Wp.skip (To.thenN (Wp.seq (rg [2] [] [(2,rs9 r1)] [] (To.thenN (Wp.ret ?_)))))
  cases h
  exact To.done hΓ (by kernel_rfl)
def name_Sorted (n:Nat) (a0:List (List UInt8)):Option ((List (List UInt8))) :=
 if (decide ((List.length ([]:List (List UInt8)) + List.length a0) * (16 + 1) ≤ limit)) = true then (if (decide (List.length (([]:List (List UInt8)) ++ a0) * 17 ≤ limit)) = true then (if (decide (List.length (Sh.sort (([]:List (List UInt8)) ++ a0)) * 17 ≤ limit)) = true then (some (Lib.compact (Sh.sort (([]:List (List UInt8)) ++ a0)))) else none) else none) else none
abbrev ex23 (x0:List (List UInt8)):=(([]:List (List UInt8)) ++ x0)
theorem ok_name_Sorted (n:Nat) (a0:List (List UInt8)) (r:(List (List UInt8))) (h:name_Sorted n a0 = some r):CallsX Tryd.prog 31 [ls a0] (ls r):=by
 unfold name_Sorted at h
 refine xo Tryd.f31 rfl fun F0 w0 _=>?_
 refine Wp.seq (rg [0] [] [(0,ls a0)] [] (To.thenN (Wp.seq ?_)))
 obtain ⟨hc3,h⟩:=chk_of h
 refine rr [] [(0,ls []),(2,ls (ex23 a0))] [] [3] [6] [(3,.row 6)] [(6,9,[rc1 (ex23 a0)])] [(MkOb 1 [] 0 (ls []) ∧ GoodR (ls [])),_,(AppOb [] E_string ([]:List (List UInt8)) (List.flatMap E_string a0) (List.length a0) (ls (ex23 a0)) ∧ GoodR (ls (ex23 a0)))] (AllP.cons (mkOb (by kernel_rfl) rfl (by kernel_rfl) (good_E_string _)) (AllP.cons hc3 (AllP.cons (appOb rfl rfl (good_E_string _)) AllP.nil))) (To.thenN (Wp.seq ?_))
 obtain ⟨u1,h⟩:=chk_of h
 refine rb [] 1 ⟨[(1000000,6)],[(1000000,6)],[.row 1000000],[(1000000,9,[rc1 (ex23 a0)])],.tup [],[(1000000,9,[rc1 (Sh.sort (ex23 a0))])]⟩ [3] [6] [(3,.row 6)] [(6,9,[rc1 (Sh.sort (ex23 a0))])] (Sh.sort54 u1) (To.thenN (Wp.seq ?_))
 obtain ⟨u2,h⟩:=chk_of h
 refine rb [] 1 ⟨[(1000000,6)],[],[.row 1000000],[(1000000,9,[rc1 (Sh.sort (ex23 a0))])],ls (Lib.compact (Sh.sort (ex23 a0))),[]⟩ [2] [] [(2,ls (Lib.compact (Sh.sort (ex23 a0))))] [] (Sh.compact55 u2) (To.thenN (Wp.ret ?_))
 cases h
 exact To.done hΓ (by kernel_rfl)
def tmpl_Names_j3 (R_tmpl_Names:(List (S_tmpl_Part)) → Option ((List (List UInt8)))) (n:Nat) (v3:List (List UInt8)) (v6:List (S_tmpl_Part)) (v7:Int) (v8:Int) (v14:Bool) (b5:S_tmpl_Part):Option ((List (List UInt8))) :=
 if v14 = true then (if (decide ((List.length v3 + List.length ([b5.f_Name]:List (List UInt8))) * (16 + 1) ≤ limit)) = true then (some (v3 ++ ([b5.f_Name]:List (List UInt8)))) else none)
 else some v3
abbrev hR20 (R_tmpl_Names:(List (S_tmpl_Part)) → Option ((List (List UInt8)))):Prop:=∀ (a0:List (S_tmpl_Part)) (r:(List (List UInt8))),R_tmpl_Names a0 = some r → CallsX Tryd.prog 15 [rs3 a0] (ls r)
abbrev ex24 (x0:S_tmpl_Part):=([x0.f_Name]:List (List UInt8))
theorem ok_tmpl_Names_j3 (R_tmpl_Names:(List (S_tmpl_Part)) → Option ((List (List UInt8)))) (hR_tmpl_Names:hR20 R_tmpl_Names) (n:Nat) (v3:List (List UInt8)) (v6:List (S_tmpl_Part)) (v7:Int) (v8:Int) (v14:Bool) (b5:S_tmpl_Part) (o:(List (List UInt8))) (h:tmpl_Names_j3 R_tmpl_Names n v3 v6 v7 v8 v14 b5 = some o) {F0:Fz} {w0:Pt Tryd.prog} {Q:Exit → Act → World → Prop} (hQ:To 28 F0 w0 [(3,.row 1003),(5,.own 5 0),(6,rs3 v6),(7,vi v7),(8,vi v8)] [(5,68,qc7 b5),(1003,9,[rc1 o])] .normal Q):Wp Tryd.prog 28 F0 w0 [(3,.row 1003),(5,.own 5 0),(6,rs3 v6),(7,vi v7),(8,vi v8),(14,vb v14)] [(5,68,qc7 b5),(1003,9,[rc1 v3])] (cB (cA (cB (cI (cA (cB (cB (cI (cI (cB (cA (cB (cB (cF Tryd.f15)))))))))))))) Q:=by
 unfold tmpl_Names_j3 at h
 refine cn h (fun h=>?_) (fun h=>?_)
 ·obtain ⟨hc1,h⟩:=chk_of h
  refine rr [] [(3,ls [b5.f_Name]),(4,ls (v3 ++ (ex24 b5)))] [] [3,5,6,7,8] [5,19] [(3,.row 19),(5,.own 5 0),(6,rs3 v6),(7,vi v7),(8,vi v8)] [(5,68,qc7 b5),(19,9,[rc1 (v3 ++ (ex24 b5))])] [(MkOb 1 [.str b5.f_Name] 1 (ls [b5.f_Name]) ∧ GoodR (ls [b5.f_Name])),_,(AppOb [] E_string v3 (List.flatMap E_string (ex24 b5)) (List.length (ex24 b5)) (ls (v3 ++ (ex24 b5))) ∧ GoodR (ls (v3 ++ (ex24 b5))))] (AllP.cons (mkOb (by kernel_rfl) rfl (by kernel_rfl) (good_E_string _)) (AllP.cons hc1 (AllP.cons (appOb rfl rfl (good_E_string _)) AllP.nil))) (nt [3,5,6,7,8] [5,19] [(19,1003)] [3,5,6,7,8] [5,1003] [(3,.row 1003),(5,.own 5 0),(6,rs3 v6),(7,vi v7),(8,vi v8)] [(5,68,qc7 b5),(1003,9,[rc1 (v3 ++ (ex24 b5))])] ?_)
  cases h
  exact hQ
 ·refine Wp.skip (kt [3,5,6,7,8] [5,1003] [(3,.row 1003),(5,.own 5 0),(6,rs3 v6),(7,vi v7),(8,vi v8)] [(5,68,qc7 b5),(1003,9,[rc1 v3])] ?_)
  cases h
  exact hQ
def tmpl_Names_j2 (R_tmpl_Names:(List (S_tmpl_Part)) → Option ((List (List UInt8)))) (n:Nat) (v3:List (List UInt8)) (v6:List (S_tmpl_Part)) (v7:Int) (v8:Int):Option ((List (List UInt8))) :=
 if (decide (0 ≤ v8 ∧ v8 < (List.length v6:Int))) = true then ((tmpl_Names_j3 R_tmpl_Names n v3 v6 v7 v8 ((((v6)[Int.toNat v8]?.getD (S_tmpl_Part.mk [] [] 0 [])).f_Op) != 0) ((v6)[Int.toNat v8]?.getD (S_tmpl_Part.mk [] [] 0 []))).bind fun o1 =>
 (R_tmpl_Names (((v6)[Int.toNat v8]?.getD (S_tmpl_Part.mk [] [] 0 [])).f_Sub)).bind fun r2 =>
 if (decide ((List.length o1 + List.length r2) * (16 + 1) ≤ limit)) = true then (some (o1 ++ r2)) else none) else none
theorem ok_tmpl_Names_j2 (R_tmpl_Names:(List (S_tmpl_Part)) → Option ((List (List UInt8)))) (hR_tmpl_Names:hR20 R_tmpl_Names) (n:Nat) (v3:List (List UInt8)) (v6:List (S_tmpl_Part)) (v7:Int) (v8:Int) (o:(List (List UInt8))) (h:tmpl_Names_j2 R_tmpl_Names n v3 v6 v7 v8 = some o) {F0:Fz} {w0:Pt Tryd.prog} {Q:Exit → Act → World → Prop} (hQ:To 28 F0 w0 [(3,.row 1003),(6,rs3 v6),(7,vi v7),(8,vi v8)] [(1003,9,[rc1 o])] .normal Q):Wp Tryd.prog 28 F0 w0 [(3,.row 1003),(6,rs3 v6),(7,vi v7),(8,vi v8)] [(1003,9,[rc1 v3])] (cA (cB (cB (cI (cI (cB (cA (cB (cB (cF Tryd.f15)))))))))) Q:=by
 unfold tmpl_Names_j2 at h
 refine Wp.block (Wp.seq ?_)
 obtain ⟨hc4,h⟩:=chk_of h
 refine r0 [3,5,6,7,8] [5,1003] [(3,.row 1003),(5,.own 5 0),(6,rs3 v6),(7,vi v7),(8,vi v8)] [(ex1 v6 v8),(1003,9,[rc1 v3])] (AllP.cons hc4 AllP.nil) (To.thenN (Wp.seq (Wp.seq (rg [3,5,6,7,8,14] [5,1003] [(3,.row 1003),(5,.own 5 0),(6,rs3 v6),(7,vi v7),(8,vi v8),(14,vb (((ex26 v6 v8).f_Op) != 0))] [(ex1 v6 v8),(1003,9,[rc1 v3])] (To.thenN ?_)))))
 obtain ⟨o1,ho1,h⟩:=bind_of h
 refine kw [3,5,6,7,8,14] [5,1003] [(3,.row 1003),(5,.own 5 0),(6,rs3 v6),(7,vi v7),(8,vi v8),(14,vb (((ex26 v6 v8).f_Op) != 0))] [(ex1 v6 v8),(1003,9,[rc1 v3])] (ok_tmpl_Names_j3 R_tmpl_Names hR_tmpl_Names n v3 v6 v7 v8 (((ex26 v6 v8).f_Op) != 0) (ex26 v6 v8) o1 ho1 (To.thenN ?_))
 obtain ⟨r2,hr2,h⟩:=bind_of h
 obtain ⟨hc3,h⟩:=chk_of h
 refine rr [] [(3,ls r2),(4,ls (o1 ++ r2))] [] [3,6,7,8] [24] [(3,.row 24),(6,rs3 v6),(7,vi v7),(8,vi v8)] [(24,9,[rc1 (o1 ++ r2)])] [(true = true → CX Tryd.prog 15 [rs3 ((ex26 v6 v8).f_Sub)] (ls r2)),_,(AppOb [] E_string o1 (List.flatMap E_string r2) (List.length r2) (ls (o1 ++ r2)) ∧ GoodR (ls (o1 ++ r2)))] (AllP.cons (fun _=>cx (hR_tmpl_Names ((ex26 v6 v8).f_Sub) _ hr2)) (AllP.cons hc3 (AllP.cons (appOb rfl rfl (good_E_string _)) AllP.nil))) (To.blockN (nt [3,6,7,8] [24] [(24,1003)] [3,6,7,8] [1003] [(3,.row 1003),(6,rs3 v6),(7,vi v7),(8,vi v8)] [(1003,9,[rc1 (o1 ++ r2)])] ?_))
 cases h
 exact hQ
def tmpl_Names_l1 (R_tmpl_Names:(List (S_tmpl_Part)) → Option ((List (List UInt8)))) (n:Nat) (v6:List (S_tmpl_Part)) (v7:Int):Nat → (List (List UInt8)) → Int → Option ((List (List UInt8)))
 | 0,_,_=>none
 | k + 1,v3,v8=>if (decide (v8 < v7)) = true then ((tmpl_Names_j2 R_tmpl_Names n v3 v6 v7 v8).bind fun o1 =>
 tmpl_Names_l1 R_tmpl_Names n v6 v7 k o1 (IntKind.wrap .i64 (v8 + 1)))
 else some v3
theorem ok_tmpl_Names_l1 (R_tmpl_Names:(List (S_tmpl_Part)) → Option ((List (List UInt8)))) (hR_tmpl_Names:hR20 R_tmpl_Names) (n:Nat) (v6:List (S_tmpl_Part)) (v7:Int) {F0:Fz} {w0:Pt Tryd.prog} {Q:Exit → Act → World → Prop} (k:Nat):∀ (v3:List (List UInt8)) (v8:Int) (o:(List (List UInt8))),tmpl_Names_l1 R_tmpl_Names n v6 v7 k v3 v8 = some o → To 28 F0 w0 [(3,.row 1003)] [(1003,9,[rc1 o])] (.exit 0) Q → WL Tryd.prog 28 F0 w0 [(3,.row 1003),(6,rs3 v6),(7,vi v7),(8,vi v8)] [(1003,9,[rc1 v3])] (cI (cI (cB (cA (cB (cB (cF Tryd.f15))))))) Q:=by
 induction k with
 | zero=>intro v3 v8 o h; cases h
 | succ k ih =>
  intro v3 v8 o h hQ
  rw [tmpl_Names_l1] at h
  refine WL.round (Wp.seq (rg [3,6,7,8,9] [1003] [(3,.row 1003),(6,rs3 v6),(7,vi v7),(8,vi v8),(9,vb (decide (v8 < v7)))] [(1003,9,[rc1 v3])] (To.thenN (Wp.seq (cn h (fun h=>?_) (fun h=>?_))))))
  ·refine Wp.skip (To.thenN (Wp.seq ?_))
   obtain ⟨o1,ho1,h⟩:=bind_of h
   refine kw [3,6,7,8] [1003] [(3,.row 1003),(6,rs3 v6),(7,vi v7),(8,vi v8)] [(1003,9,[rc1 v3])] (ok_tmpl_Names_j2 R_tmpl_Names hR_tmpl_Names n v3 v6 v7 v8 o1 ho1 (To.thenN (rg [3,6,7,8] [1003] [(3,.row 1003),(6,rs3 v6),(7,vi v7),(ex4 v8)] [(1003,9,[rc1 o1])] (kt [3,6,7,8] [1003] [(3,.row 1003),(6,rs3 v6),(7,vi v7),(ex4 v8)] [(1003,9,[rc1 o1])] (To.again ?_)))))
   exact ih o1 (IntKind.wrap .i64 (v8 + 1)) _ h hQ
  ·refine Wp.exit (To.thenX (To.thenX (kt [3] [1003] [(3,.row 1003)] [(1003,9,[rc1 v3])] ?_)))
   cases h
   exact hQ
def tmpl_Names_b (R_tmpl_Names:(List (S_tmpl_Part)) → Option ((List (List UInt8)))) (n:Nat) (a0:List (S_tmpl_Part)):Option ((List (List UInt8))) :=
 (tmpl_Names_l1 R_tmpl_Names n a0 (List.length a0:Int) n ([]:List (List UInt8)) 0).bind fun o1 =>
 (name_Sorted n o1).bind fun r2 =>
 some r2
theorem ok_tmpl_Names_b (R_tmpl_Names:(List (S_tmpl_Part)) → Option ((List (List UInt8)))) (hR_tmpl_Names:hR20 R_tmpl_Names) (n:Nat) (a0:List (S_tmpl_Part)) (r:(List (List UInt8))) (h:tmpl_Names_b R_tmpl_Names n a0 = some r):CallsX Tryd.prog 15 [rs3 a0] (ls r):=by
 unfold tmpl_Names_b at h
 refine xo Tryd.f15 rfl fun F0 w0 _=>?_
 refine Wp.seq (rg [0] [] [(0,rs3 a0)] [] (To.thenN (Wp.seq (rg [0,3] [] [(0,rs3 a0),(3,.val (.slice none 0 0))] [] (To.thenN (Wp.seq (Wp.seq (rg [3,6,7,8] [] [(3,.val (.slice none 0 0)),(6,rs3 a0),(7,vi (List.length a0:Int)),(8,vi 0)] [] (To.thenN (Wp.block ?_))))))))))
 obtain ⟨o1,ho1,h⟩:=bind_of h
 refine kw [3,6,7,8] [] [(3,.val (.slice none 0 0)),(6,rs3 a0),(7,vi (List.length a0:Int)),(8,vi 0)] [] (Wp.pre (St.vacant (t:=3) (k:=1003) (e:=9) (K':=[(3,.row 1003),(6,rs3 a0),(7,vi (List.length a0:Int)),(8,vi 0)]) (good_E_string _) (by decide) (by kernel_rfl) (by kernel_rfl)) (kw [3,6,7,8] [1003] [(3,.row 1003),(6,rs3 a0),(7,vi (List.length a0:Int)),(8,vi 0)] [(1003,9,[rc1 []])] (Wp.loopL (ok_tmpl_Names_l1 R_tmpl_Names hR_tmpl_Names n a0 (List.length a0:Int) n ([]:List (List UInt8)) 0 o1 ho1 (To.blockX (To.thenN (Wp.seq ?_)))))))
 obtain ⟨r2,hr2,h⟩:=bind_of h
 refine rc [(1,[1003])] 1 [2] [] [(2,ls r2)] [] (ok_name_Sorted n o1 _ hr2) (To.thenN (Wp.ret ?_))
 cases h
 exact To.done hΓ (by kernel_rfl)
def tmpl_Names:Nat → (List (S_tmpl_Part)) → Option ((List (List UInt8)))
 | 0=>fun _=>none
 | n + 1=>tmpl_Names_b (tmpl_Names n) n
theorem ok_tmpl_Names (n:Nat):∀ (a0:List (S_tmpl_Part)) (r:(List (List UInt8))),tmpl_Names n a0 = some r → CallsX Tryd.prog 15 [rs3 a0] (ls r):=by
 induction n with
 | zero=>intro a0 r h; cases h
 | succ n ih=>exact fun a0 r h=>ok_tmpl_Names_b (tmpl_Names n) ih n a0 r h
def ref02_In_l1 (n:Nat) (v0:List (List UInt8)) (v1:List UInt8):Nat → Int → Option (Sum (Unit) (Bool))
 | 0,_=>none
 | k + 1,v5=>if (decide (v5 < (List.length v0:Int))) = true then (if (decide (0 ≤ v5 ∧ v5 < (List.length v0:Int))) = true then (if (((v0)[Int.toNat v5]?.getD []) == v1) = true then (some (.inr true))
 else (ref02_In_l1 n v0 v1 k (IntKind.wrap .i64 (v5 + 1)))) else none)
 else (some (.inl ()))
theorem ok_ref02_In_l1 (n:Nat) (v0:List (List UInt8)) (v1:List UInt8) {F0:Fz} {w0:Pt Tryd.prog} {Q:Exit → Act → World → Prop} (k:Nat):∀ (v5:Int) (o:Sum (Unit) (Bool)),ref02_In_l1 n v0 v1 k v5 = some o → (Sum.elim (fun s=>To 18 F0 w0 [] [] (.exit 0) Q) (fun s=>To 18 F0 w0 [(4,vb s)] [] .ret Q)) o → WL Tryd.prog 18 F0 w0 [(0,ls v0),(1,.str v1),(5,vi v5)] [] (cI (cI (cB (cA (cB (cF Tryd.f16)))))) Q:=by
 induction k with
 | zero=>intro v5 o h; cases h
 | succ k ih =>
  intro v5 o h hQ
  rw [ref02_In_l1] at h
  refine WL.round (Wp.seq (Wp.seq (rg [0,1,5,9] [] [(0,ls v0),(1,.str v1),(5,vi v5),(9,vb (decide (v5 < (List.length v0:Int))))] [] (To.thenN (cn h (fun h=>?_) (fun h=>?_))))))
  ·refine Wp.skip (To.thenN (Wp.seq (Wp.block (Wp.seq ?_))))
   obtain ⟨hc1,h⟩:=chk_of h
   refine r0 [0,1,5,17] [] [(0,ls v0),(1,.str v1),(5,vi v5),(17,vb (((v0)[Int.toNat v5]?.getD []) == v1))] [] (AllP.cons hc1 AllP.nil) (To.thenN (cn h (fun h=>?_) (fun h=>?_)))
   ·refine Wp.seq (rg [4] [] [(4,vb true)] [] (To.thenN (Wp.ret (To.blockR (To.thenR (To.thenR ?_))))))
    cases h
    exact hQ
   ·refine Wp.skip (To.blockN (To.thenN (rg [0,1,5] [] [(0,ls v0),(1,.str v1),(ex8 v5)] [] (kt [0,1,5] [] [(0,ls v0),(1,.str v1),(ex8 v5)] [] (To.again ?_)))))
    exact ih (IntKind.wrap .i64 (v5 + 1)) _ h hQ
  ·refine Wp.exit (To.thenX (To.thenX (kt [] [] [] [] ?_)))
   cases h
   exact hQ
def ref02_In (n:Nat) (a0:List (List UInt8)) (a1:List UInt8):Option (Bool) :=
 (ref02_In_l1 n a0 a1 n 0).bind fun o1 =>
 (Sum.elim (fun o1=>some false) (fun o1=>some o1)) o1
theorem ok_ref02_In (n:Nat) (a0:List (List UInt8)) (a1:List UInt8) (r:Bool) (h:ref02_In n a0 a1 = some r):CallsX Tryd.prog 16 [ls a0,.str a1] (vb r):=by
 unfold ref02_In at h
 refine xo Tryd.f16 rfl fun F0 w0 _=>?_
 refine Wp.seq (rg [0,1] [] [(0,ls a0),(1,.str a1)] [] (To.thenN (Wp.seq (Wp.seq (rg [0,1,5] [] [(0,ls a0),(1,.str a1),(5,vi 0)] [] (To.thenN (Wp.block ?_)))))))
 obtain ⟨o1,ho1,h⟩:=bind_of h
 refine kw [0,1,5] [] [(0,ls a0),(1,.str a1),(5,vi 0)] [] (Wp.loopL (ok_ref02_In_l1 n a0 a1 n 0 o1 ho1 ?_))
 rcases o1 with o1 | o1
 ·replace h:=sum_l h
  refine To.blockX (To.thenN (Wp.seq (rg [4] [] [(4,vb false)] [] (To.thenN (Wp.ret ?_)))))
  cases h
  exact To.done hΓ (by kernel_rfl)
 ·replace h:=sum_r h
  refine To.blockR (To.thenR ?_)
  cases h
  exact To.done hΓ (by kernel_rfl)
def law14_SubstAgree_j2 (n:Nat) (v3:List (S_api_Var)) (v9:List (S_tmpl_Part)) (v11:List (S_tmpl_Part)) (v13:List (S_api_Var)) (v14:List (List UInt8)) (v15:List (S_api_Var)) (v16:Int):Option ((List (S_api_Var))) :=
 if (decide (0 ≤ v16 ∧ v16 < (List.length v3:Int))) = true then ((ref02_In n v14 (((v3)[Int.toNat v16]?.getD (S_api_Var.mk [] [])).f_Key)).bind fun r10 =>
 if (!r10) = true then (if (decide (0 ≤ v16 ∧ v16 < (List.length v3:Int))) = true then (if (decide ((List.length v15 + List.length ([((v3)[Int.toNat v16]?.getD (S_api_Var.mk [] []))]:List (S_api_Var))) * (32 + 1) ≤ limit)) = true then (some (v15 ++ ([((v3)[Int.toNat v16]?.getD (S_api_Var.mk [] []))]:List (S_api_Var)))) else none) else none)
 else some v15) else none
abbrev ex33 (x0:List (S_api_Var)) (x1:Int):=([(ex5 x0 x1)]:List (S_api_Var))
theorem ok_law14_SubstAgree_j2 (n:Nat) (v3:List (S_api_Var)) (v9:List (S_tmpl_Part)) (v11:List (S_tmpl_Part)) (v13:List (S_api_Var)) (v14:List (List UInt8)) (v15:List (S_api_Var)) (v16:Int) (o:(List (S_api_Var))) (h:law14_SubstAgree_j2 n v3 v9 v11 v13 v14 v15 v16 = some o) {F0:Fz} {w0:Pt Tryd.prog} {Q:Exit → Act → World → Prop} (hQ:To 197 F0 w0 [(3,rs9 v3),(9,rs3 v9),(11,rs3 v11),(13,rs9 v13),(14,ls v14),(15,.row 1015),(16,vi v16)] [(1015,43,[rc17 o])] .normal Q):Wp Tryd.prog 197 F0 w0 [(3,rs9 v3),(9,rs3 v9),(11,rs3 v11),(13,rs9 v13),(14,ls v14),(15,.row 1015),(16,vi v16)] [(1015,43,[rc17 v15])] (cA (cB (cI (cI (cB (cA (cB (cB (cB (cB (cB (cB (cB (cB (cF Tryd.f4))))))))))))))) Q:=by
 unfold law14_SubstAgree_j2 at h
 refine Wp.block (Wp.seq ?_)
 obtain ⟨hc13,h⟩:=chk_of h
 obtain ⟨r10,hr10,h⟩:=bind_of h
 refine rr [] [(6,vb r10)] [] [3,9,11,13,14,15,16,80] [1015] [(3,rs9 v3),(9,rs3 v9),(11,rs3 v11),(13,rs9 v13),(14,ls v14),(15,.row 1015),(16,vi v16),(80,vb (!r10))] [(1015,43,[rc17 v15])] [_,_] (AllP.cons hc13 (AllP.cons (c1 (ok_ref02_In n v14 ((ex5 v3 v16).f_Key) _ hr10)) AllP.nil)) (To.thenN (cn h (fun h=>?_) (fun h=>?_)))
 ·obtain ⟨hc11,h⟩:=chk_of h
  obtain ⟨hc12,h⟩:=chk_of h
  refine rr [] [(5,rs9 ([(ex5 v3 v16)])),(6,rs9 (v15 ++ (ex33 v3 v16)))] [] [3,9,11,13,14,15,16] [87] [(3,rs9 v3),(9,rs3 v9),(11,rs3 v11),(13,rs9 v13),(14,ls v14),(15,.row 87),(16,vi v16)] [(87,43,[rc17 (v15 ++ (ex33 v3 v16))])] [_,(MkOb 2 [.str ((ex5 v3 v16).f_Key),.str ((ex5 v3 v16).f_Val)] 1 (rs9 ([(ex5 v3 v16)])) ∧ GoodR (rs9 ([(ex5 v3 v16)]))),_,(AppOb zx8 E_api_Var v15 (List.flatMap E_api_Var (ex33 v3 v16)) (List.length (ex33 v3 v16)) (rs9 (v15 ++ (ex33 v3 v16))) ∧ GoodR (rs9 (v15 ++ (ex33 v3 v16))))] (AllP.cons hc11 (AllP.cons (mkOb (by kernel_rfl) rfl (by kernel_rfl) (good_E_api_Var _)) (AllP.cons hc12 (AllP.cons (appOb rfl rfl (good_E_api_Var _)) AllP.nil)))) (To.blockN (nt [3,9,11,13,14,15,16] [87] [(87,1015)] [3,9,11,13,14,15,16] [1015] [(3,rs9 v3),(9,rs3 v9),(11,rs3 v11),(13,rs9 v13),(14,ls v14),(15,.row 1015),(16,vi v16)] [(1015,43,[rc17 (v15 ++ (ex33 v3 v16))])] ?_))
  cases h
  exact hQ
 ·refine Wp.skip (To.blockN (kt [3,9,11,13,14,15,16] [1015] [(3,rs9 v3),(9,rs3 v9),(11,rs3 v11),(13,rs9 v13),(14,ls v14),(15,.row 1015),(16,vi v16)] [(1015,43,[rc17 v15])] ?_))
  cases h
  exact hQ
def law14_SubstAgree_l1 (n:Nat) (v3:List (S_api_Var)) (v9:List (S_tmpl_Part)) (v11:List (S_tmpl_Part)) (v13:List (S_api_Var)) (v14:List (List UInt8)):Nat → (List (S_api_Var)) → Int → Option ((List (S_api_Var)))
 | 0,_,_=>none
 | k + 1,v15,v16=>if (decide (v16 < (List.length v3:Int))) = true then ((law14_SubstAgree_j2 n v3 v9 v11 v13 v14 v15 v16).bind fun o10 =>
 law14_SubstAgree_l1 n v3 v9 v11 v13 v14 k o10 (IntKind.wrap .i64 (v16 + 1)))
 else some v15
theorem ok_law14_SubstAgree_l1 (n:Nat) (v3:List (S_api_Var)) (v9:List (S_tmpl_Part)) (v11:List (S_tmpl_Part)) (v13:List (S_api_Var)) (v14:List (List UInt8)) {F0:Fz} {w0:Pt Tryd.prog} {Q:Exit → Act → World → Prop} (k:Nat):∀ (v15:List (S_api_Var)) (v16:Int) (o:(List (S_api_Var))),law14_SubstAgree_l1 n v3 v9 v11 v13 v14 k v15 v16 = some o → To 197 F0 w0 [(9,rs3 v9),(11,rs3 v11),(13,rs9 v13),(14,ls v14),(15,.row 1015)] [(1015,43,[rc17 o])] (.exit 0) Q → WL Tryd.prog 197 F0 w0 [(3,rs9 v3),(9,rs3 v9),(11,rs3 v11),(13,rs9 v13),(14,ls v14),(15,.row 1015),(16,vi v16)] [(1015,43,[rc17 v15])] (cI (cI (cB (cA (cB (cB (cB (cB (cB (cB (cB (cB (cF Tryd.f4))))))))))))) Q:=by
 induction k with
 | zero=>intro v15 v16 o h; cases h
 | succ k ih =>
  intro v15 v16 o h hQ
  rw [law14_SubstAgree_l1] at h
  refine WL.round (Wp.seq (Wp.seq (rg [3,9,11,13,14,15,16,70] [1015] [(3,rs9 v3),(9,rs3 v9),(11,rs3 v11),(13,rs9 v13),(14,ls v14),(15,.row 1015),(16,vi v16),(70,vb (ex7 v16 v3))] [(1015,43,[rc17 v15])] (To.thenN (cn h (fun h=>?_) (fun h=>?_))))))
  ·refine Wp.skip (To.thenN (Wp.seq ?_))
   obtain ⟨o10,ho10,h⟩:=bind_of h
   refine kw [3,9,11,13,14,15,16] [1015] [(3,rs9 v3),(9,rs3 v9),(11,rs3 v11),(13,rs9 v13),(14,ls v14),(15,.row 1015),(16,vi v16)] [(1015,43,[rc17 v15])] (ok_law14_SubstAgree_j2 n v3 v9 v11 v13 v14 v15 v16 o10 ho10 (To.thenN (rg [3,9,11,13,14,15,16] [1015] [(3,rs9 v3),(9,rs3 v9),(11,rs3 v11),(13,rs9 v13),(14,ls v14),(15,.row 1015),(16,vi (IntKind.wrap .i64 (v16 + 1)))] [(1015,43,[rc17 o10])] (kt [3,9,11,13,14,15,16] [1015] [(3,rs9 v3),(9,rs3 v9),(11,rs3 v11),(13,rs9 v13),(14,ls v14),(15,.row 1015),(16,vi (IntKind.wrap .i64 (v16 + 1)))] [(1015,43,[rc17 o10])] (To.again ?_)))))
   exact ih o10 (IntKind.wrap .i64 (v16 + 1)) _ h hQ
  ·refine Wp.exit (To.thenX (To.thenX (kt [9,11,13,14,15] [1015] [(9,rs3 v9),(11,rs3 v11),(13,rs9 v13),(14,ls v14),(15,.row 1015)] [(1015,43,[rc17 v15])] ?_)))
   cases h
   exact hQ
def law14_SubstAgree_j4 (n:Nat) (v9:List (S_tmpl_Part)) (v11:List (S_tmpl_Part)) (v13:List (S_api_Var)) (v14:List (List UInt8)) (v15:List (S_api_Var)) (v17:Int):Option ((List (S_api_Var))) :=
 if (decide (0 ≤ v17 ∧ v17 < (List.length v13:Int))) = true then ((ref02_In n v14 (((v13)[Int.toNat v17]?.getD (S_api_Var.mk [] [])).f_Key)).bind fun r11 =>
 if r11 = true then (if (decide (0 ≤ v17 ∧ v17 < (List.length v13:Int))) = true then (if (decide ((List.length v15 + List.length ([((v13)[Int.toNat v17]?.getD (S_api_Var.mk [] []))]:List (S_api_Var))) * (32 + 1) ≤ limit)) = true then (some (v15 ++ ([((v13)[Int.toNat v17]?.getD (S_api_Var.mk [] []))]:List (S_api_Var)))) else none) else none)
 else some v15) else none
theorem ok_law14_SubstAgree_j4 (n:Nat) (v9:List (S_tmpl_Part)) (v11:List (S_tmpl_Part)) (v13:List (S_api_Var)) (v14:List (List UInt8)) (v15:List (S_api_Var)) (v17:Int) (o:(List (S_api_Var))) (h:law14_SubstAgree_j4 n v9 v11 v13 v14 v15 v17 = some o) {F0:Fz} {w0:Pt Tryd.prog} {Q:Exit → Act → World → Prop} (hQ:To 197 F0 w0 [(9,rs3 v9),(11,rs3 v11),(13,rs9 v13),(14,ls v14),(15,.row 1015),(17,vi v17)] [(1015,43,[rc17 o])] .normal Q):Wp Tryd.prog 197 F0 w0 [(9,rs3 v9),(11,rs3 v11),(13,rs9 v13),(14,ls v14),(15,.row 1015),(17,vi v17)] [(1015,43,[rc17 v15])] (cA (cB (cI (cI (cB (cA (cB (cB (cB (cB (cB (cB (cB (cB (cB (cF Tryd.f4)))))))))))))))) Q:=by
 unfold law14_SubstAgree_j4 at h
 refine Wp.block (Wp.seq ?_)
 obtain ⟨hc14,h⟩:=chk_of h
 obtain ⟨r11,hr11,h⟩:=bind_of h
 refine rr [] [(6,vb r11)] [] [9,11,13,14,15,17,100] [1015] [(9,rs3 v9),(11,rs3 v11),(13,rs9 v13),(14,ls v14),(15,.row 1015),(17,vi v17),(100,vb r11)] [(1015,43,[rc17 v15])] [_,_] (AllP.cons hc14 (AllP.cons (c1 (ok_ref02_In n v14 ((ex5 v13 v17).f_Key) _ hr11)) AllP.nil)) (To.thenN (cn h (fun h=>?_) (fun h=>?_)))
 ·obtain ⟨hc12,h⟩:=chk_of h
  obtain ⟨hc13,h⟩:=chk_of h
  refine rr [] [(5,rs9 ([(ex5 v13 v17)])),(6,rs9 (v15 ++ (ex33 v13 v17)))] [] [9,11,13,14,15,17] [107] [(9,rs3 v9),(11,rs3 v11),(13,rs9 v13),(14,ls v14),(15,.row 107),(17,vi v17)] [(107,43,[rc17 (v15 ++ (ex33 v13 v17))])] [_,(MkOb 2 [.str ((ex5 v13 v17).f_Key),.str ((ex5 v13 v17).f_Val)] 1 (rs9 ([(ex5 v13 v17)])) ∧ GoodR (rs9 ([(ex5 v13 v17)]))),_,(AppOb zx8 E_api_Var v15 (List.flatMap E_api_Var (ex33 v13 v17)) (List.length (ex33 v13 v17)) (rs9 (v15 ++ (ex33 v13 v17))) ∧ GoodR (rs9 (v15 ++ (ex33 v13 v17))))] (AllP.cons hc12 (AllP.cons (mkOb (by kernel_rfl) rfl (by kernel_rfl) (good_E_api_Var _)) (AllP.cons hc13 (AllP.cons (appOb rfl rfl (good_E_api_Var _)) AllP.nil)))) (To.blockN (nt [9,11,13,14,15,17] [107] [(107,1015)] [9,11,13,14,15,17] [1015] [(9,rs3 v9),(11,rs3 v11),(13,rs9 v13),(14,ls v14),(15,.row 1015),(17,vi v17)] [(1015,43,[rc17 (v15 ++ (ex33 v13 v17))])] ?_))
  cases h
  exact hQ
 ·refine Wp.skip (To.blockN (kt [9,11,13,14,15,17] [1015] [(9,rs3 v9),(11,rs3 v11),(13,rs9 v13),(14,ls v14),(15,.row 1015),(17,vi v17)] [(1015,43,[rc17 v15])] ?_))
  cases h
  exact hQ
def law14_SubstAgree_l3 (n:Nat) (v9:List (S_tmpl_Part)) (v11:List (S_tmpl_Part)) (v13:List (S_api_Var)) (v14:List (List UInt8)):Nat → (List (S_api_Var)) → Int → Option ((List (S_api_Var)))
 | 0,_,_=>none
 | k + 1,v15,v17=>if (decide (v17 < (List.length v13:Int))) = true then ((law14_SubstAgree_j4 n v9 v11 v13 v14 v15 v17).bind fun o11 =>
 law14_SubstAgree_l3 n v9 v11 v13 v14 k o11 (IntKind.wrap .i64 (v17 + 1)))
 else some v15
theorem ok_law14_SubstAgree_l3 (n:Nat) (v9:List (S_tmpl_Part)) (v11:List (S_tmpl_Part)) (v13:List (S_api_Var)) (v14:List (List UInt8)) {F0:Fz} {w0:Pt Tryd.prog} {Q:Exit → Act → World → Prop} (k:Nat):∀ (v15:List (S_api_Var)) (v17:Int) (o:(List (S_api_Var))),law14_SubstAgree_l3 n v9 v11 v13 v14 k v15 v17 = some o → To 197 F0 w0 [(9,rs3 v9),(11,rs3 v11),(13,rs9 v13),(15,.row 1015)] [(1015,43,[rc17 o])] (.exit 2) Q → WL Tryd.prog 197 F0 w0 [(9,rs3 v9),(11,rs3 v11),(13,rs9 v13),(14,ls v14),(15,.row 1015),(17,vi v17)] [(1015,43,[rc17 v15])] (cI (cI (cB (cA (cB (cB (cB (cB (cB (cB (cB (cB (cB (cF Tryd.f4)))))))))))))) Q:=by
 induction k with
 | zero=>intro v15 v17 o h; cases h
 | succ k ih =>
  intro v15 v17 o h hQ
  rw [law14_SubstAgree_l3] at h
  refine WL.round (Wp.seq (Wp.seq (rg [9,11,13,14,15,17,91] [1015] [(9,rs3 v9),(11,rs3 v11),(13,rs9 v13),(14,ls v14),(15,.row 1015),(17,vi v17),(91,vb (ex7 v17 v13))] [(1015,43,[rc17 v15])] (To.thenN (cn h (fun h=>?_) (fun h=>?_))))))
  ·refine Wp.skip (To.thenN (Wp.seq ?_))
   obtain ⟨o11,ho11,h⟩:=bind_of h
   refine kw [9,11,13,14,15,17] [1015] [(9,rs3 v9),(11,rs3 v11),(13,rs9 v13),(14,ls v14),(15,.row 1015),(17,vi v17)] [(1015,43,[rc17 v15])] (ok_law14_SubstAgree_j4 n v9 v11 v13 v14 v15 v17 o11 ho11 (To.thenN (rg [9,11,13,14,15,17] [1015] [(9,rs3 v9),(11,rs3 v11),(13,rs9 v13),(14,ls v14),(15,.row 1015),(17,vi (IntKind.wrap .i64 (v17 + 1)))] [(1015,43,[rc17 o11])] (kt [9,11,13,14,15,17] [1015] [(9,rs3 v9),(11,rs3 v11),(13,rs9 v13),(14,ls v14),(15,.row 1015),(17,vi (IntKind.wrap .i64 (v17 + 1)))] [(1015,43,[rc17 o11])] (To.again ?_)))))
   exact ih o11 (IntKind.wrap .i64 (v17 + 1)) _ h hQ
  ·refine Wp.exit (To.thenX (To.thenX (kt [9,11,13,15] [1015] [(9,rs3 v9),(11,rs3 v11),(13,rs9 v13),(15,.row 1015)] [(1015,43,[rc17 v15])] ?_)))
   cases h
   exact hQ
def law14_SubstAgree (n:Nat) (a0:List UInt8) (a1:List UInt8) (a2:List (S_api_Var)) (a3:List (S_api_Var)):Option (Bool) :=
 ((if ((bif (decide ((List.length a0:Int) > 400)) then true else (decide ((List.length a1:Int) > 400))) == false) = true then law12_Few n a2 20 else some false)).bind fun r1 =>
 ((if ((bif (bif (decide ((List.length a0:Int) > 400)) then true else (decide ((List.length a1:Int) > 400))) then true else (!r1)) == false) = true then law12_Few n a3 20 else some false)).bind fun r2 =>
 lett ((bif (bif (bif (decide ((List.length a0:Int) > 400)) then true else (decide ((List.length a1:Int) > 400))) then true else (!r1)) then true else (!r2)):Bool) fun x3 =>
 if x3 = true then ((law14_awake n).bind fun r4 =>
 some r4)
 else ((tmpl_Parse n a0).bind fun r5 =>
 (tmpl_Parse n a1).bind fun r6 =>
 if (bif (r5.2 != 0) then true else (r6.2 != 0)) = true then ((law14_awake n).bind fun r7 =>
 some r7)
 else ((ref12_Of n a2).bind fun r8 =>
 (tmpl_Names n r5.1).bind fun r9 =>
 (law14_SubstAgree_l1 n a3 r5.1 r6.1 r8 r9 n ([]:List (S_api_Var)) 0).bind fun o10 =>
 (law14_SubstAgree_l3 n r5.1 r6.1 r8 r9 n o10 0).bind fun o11 =>
 (ref12_Of n o11).bind fun r12 =>
 (subst_Expand n r5.1 r8).bind fun r13 =>
 (subst_Expand n r5.1 r12).bind fun r14 =>
 if (bif (!(r13.1 == r14.1)) then true else (r13.2 != r14.2)) = true then some false
 else ((subst_Expand n r6.1 r8).bind fun r15 =>
 (tmpl_Text n r5.1).bind fun r16 =>
 (tmpl_Text n r6.1).bind fun r17 =>
 if (decide (((List.length r16 + List.length r17:Nat):Int) ≤ 9223372036854775807)) = true then ((subst_Text n (r16 ++ r17) r8).bind fun r18 =>
 if (r13.2 != 0) = true then (((if ((bif (r18.2 == r13.2) then (r18.1 == []) else false) == true) = true then law14_awake n else some false)).bind fun r19 =>
 some (bif (bif (r18.2 == r13.2) then (r18.1 == []) else false) then r19 else false))
 else (if (r15.2 != 0) = true then (((if ((bif (bif (r18.2 == r15.2) then true else (r18.2 == 9)) then (r18.1 == []) else false) == true) = true then law14_awake n else some false)).bind fun r20 =>
 some (bif (bif (bif (r18.2 == r15.2) then true else (r18.2 == 9)) then (r18.1 == []) else false) then r20 else false))
 else (if (decide ((IntKind.wrap .i64 ((List.length r13.1:Int) + (List.length r15.1:Int))) > 8192)) = true then (((if ((r18.2 == 9) == true) = true then law14_awake n else some false)).bind fun r21 =>
 some (bif (r18.2 == 9) then r21 else false))
 else (if (decide (((List.length r13.1 + List.length r15.1:Nat):Int) ≤ 9223372036854775807)) = true then (((if ((bif (r18.1 == (r13.1 ++ r15.1)) then (r18.2 == 0) else false) == true) = true then law14_awake n else some false)).bind fun r22 =>
 some (bif (bif (r18.1 == (r13.1 ++ r15.1)) then (r18.2 == 0) else false) then r22 else false)) else none)))) else none)))
abbrev ex25 (x0:List UInt8) (x1:List UInt8):=(bif (decide ((List.length x0:Int) > 400)) then true else (decide ((List.length x1:Int) > 400)))
theorem ok_law14_SubstAgree (n:Nat) (a0:List UInt8) (a1:List UInt8) (a2:List (S_api_Var)) (a3:List (S_api_Var)) (r:Bool) (h:law14_SubstAgree n a0 a1 a2 a3 = some r):CallsX Tryd.prog 4 [.str a0,.str a1,rs9 a2,rs9 a3] (vb r):=by
 unfold law14_SubstAgree at h
 refine xo Tryd.f4 rfl fun F0 w0 _=>?_
 refine Wp.seq (rg [0,1,2,3] [] [(0,.str a0),(1,.str a1),(2,rs9 a2),(3,rs9 a3)] [] (To.thenN (Wp.seq (Wp.seq ?_))))
 obtain ⟨r1,hr1,h⟩:=bind_of h
 obtain ⟨r2,hr2,h⟩:=bind_of h
 obtain ⟨x3,hx3,h⟩:=lett_of h
 refine rr [] [(10,vb r1),(15,vb r2)] [] [0,1,2,3,44] [] [(0,.str a0),(1,.str a1),(2,rs9 a2),(3,rs9 a3),(44,vb (bif (bif (ex25 a0 a1) then true else (!r1)) then true else (!r2)))] [] [(((ex25 a0 a1) == false) = true → CX Tryd.prog 7 [rs9 a2,vi 20] (vb r1)),(((bif (ex25 a0 a1) then true else (!r1)) == false) = true → CX Tryd.prog 7 [rs9 a3,vi 20] (vb r2))] (AllP.cons (fun hg=>cx (ok_law12_Few n a2 20 _ (if_t hg hr1))) (AllP.cons (fun hg=>cx (ok_law12_Few n a3 20 _ (if_t hg hr2))) AllP.nil)) (To.eq (K':=[(0,.str a0),(1,.str a1),(2,rs9 a2),(3,rs9 a3),(44,vb x3)]) (L':=[]) (by cases hx3; rfl) (by cases hx3; rfl) (To.thenN (cn h (fun h=>?_) (fun h=>?_))))
 ·refine Wp.seq ?_
  obtain ⟨r4,hr4,h⟩:=bind_of h
  refine rc [] 0 [8] [] [(8,vb r4)] [] (ok_law14_awake n  _ hr4) (To.thenN (Wp.ret (To.thenR ?_)))
  cases h
  exact To.done hΓ (by kernel_rfl)
 ·refine Wp.skip (To.thenN (Wp.seq ?_))
  obtain ⟨r5,hr5,h⟩:=bind_of h
  refine rc [] 1 [1,2,3,9,10] [] [(1,.str a1),(2,rs9 a2),(3,rs9 a3),(9,rs3 r5.1),(10,vi r5.2)] [] (ok_tmpl_Parse n a0 _ hr5) (To.thenN (Wp.seq ?_))
  obtain ⟨r6,hr6,h⟩:=bind_of h
  refine rc [] 1 [2,3,9,10,11,12] [] [(2,rs9 a2),(3,rs9 a3),(9,rs3 r5.1),(10,vi r5.2),(11,rs3 r6.1),(12,vi r6.2)] [] (ok_tmpl_Parse n a1 _ hr6) (To.thenN (Wp.seq (Wp.seq (rg [2,3,9,11,61] [] [(2,rs9 a2),(3,rs9 a3),(9,rs3 r5.1),(11,rs3 r6.1),(61,vb (bif (r5.2 != 0) then true else (r6.2 != 0)))] [] (To.thenN (cn h (fun h=>?_) (fun h=>?_)))))))
  ·refine Wp.seq ?_
   obtain ⟨r7,hr7,h⟩:=bind_of h
   refine rc [] 0 [8] [] [(8,vb r7)] [] (ok_law14_awake n  _ hr7) (To.thenN (Wp.ret (To.thenR ?_)))
   cases h
   exact To.done hΓ (by kernel_rfl)
  ·refine Wp.skip (To.thenN (Wp.seq ?_))
   obtain ⟨r8,hr8,h⟩:=bind_of h
   refine rc [] 1 [3,9,11,13] [] [(3,rs9 a3),(9,rs3 r5.1),(11,rs3 r6.1),(13,rs9 r8)] [] (ok_ref12_Of n a2 _ hr8) (To.thenN (Wp.seq ?_))
   obtain ⟨r9,hr9,h⟩:=bind_of h
   refine rc [] 1 [3,9,11,13,14] [] [(3,rs9 a3),(9,rs3 r5.1),(11,rs3 r6.1),(13,rs9 r8),(14,ls r9)] [] (ok_tmpl_Names n r5.1 _ hr9) (To.thenN (Wp.seq (rg [3,9,11,13,14,15] [] [(3,rs9 a3),(9,rs3 r5.1),(11,rs3 r6.1),(13,rs9 r8),(14,ls r9),(15,.val (.slice none 0 0))] [] (To.thenN (Wp.seq (Wp.seq (rg [3,9,11,13,14,15,16] [] [(3,rs9 a3),(9,rs3 r5.1),(11,rs3 r6.1),(13,rs9 r8),(14,ls r9),(15,.val (.slice none 0 0)),(16,vi 0)] [] (To.thenN (Wp.block ?_)))))))))
   obtain ⟨o10,ho10,h⟩:=bind_of h
   refine kw [3,9,11,13,14,15,16] [] [(3,rs9 a3),(9,rs3 r5.1),(11,rs3 r6.1),(13,rs9 r8),(14,ls r9),(15,.val (.slice none 0 0)),(16,vi 0)] [] (Wp.pre (St.vacant (t:=15) (k:=1015) (e:=43) (K':=[(3,rs9 a3),(9,rs3 r5.1),(11,rs3 r6.1),(13,rs9 r8),(14,ls r9),(15,.row 1015),(16,vi 0)]) (good_E_api_Var _) (by decide) (by kernel_rfl) (by kernel_rfl)) (kw [3,9,11,13,14,15,16] [1015] [(3,rs9 a3),(9,rs3 r5.1),(11,rs3 r6.1),(13,rs9 r8),(14,ls r9),(15,.row 1015),(16,vi 0)] [(1015,43,[rc17 []])] (Wp.loopL (ok_law14_SubstAgree_l1 n a3 r5.1 r6.1 r8 r9 n ([]:List (S_api_Var)) 0 o10 ho10 (To.blockX (To.thenN (Wp.seq (Wp.seq (rg [9,11,13,14,15,17] [1015] [(9,rs3 r5.1),(11,rs3 r6.1),(13,rs9 r8),(14,ls r9),(15,.row 1015),(17,vi 0)] [(1015,43,[rc17 o10])] (To.thenN (Wp.block ?_)))))))))))
   obtain ⟨o11,ho11,h⟩:=bind_of h
   refine kw [9,11,13,14,15,17] [1015] [(9,rs3 r5.1),(11,rs3 r6.1),(13,rs9 r8),(14,ls r9),(15,.row 1015),(17,vi 0)] [(1015,43,[rc17 o10])] (Wp.loopL (ok_law14_SubstAgree_l3 n r5.1 r6.1 r8 r9 n o10 0 o11 ho11 (To.blockX (To.thenN (Wp.seq ?_)))))
   obtain ⟨r12,hr12,h⟩:=bind_of h
   refine rc [(1,[1015])] 1 [9,11,13,18] [] [(9,rs3 r5.1),(11,rs3 r6.1),(13,rs9 r8),(18,rs9 r12)] [] (ok_ref12_Of n o11 _ hr12) (To.thenN (Wp.seq ?_))
   obtain ⟨r13,hr13,h⟩:=bind_of h
   refine rc [] 2 [9,11,13,18,19,20] [] [(9,rs3 r5.1),(11,rs3 r6.1),(13,rs9 r8),(18,rs9 r12),(19,.str r13.1),(20,vi r13.2)] [] (ok_subst_Expand n r5.1 r8 _ hr13) (To.thenN (Wp.seq ?_))
   obtain ⟨r14,hr14,h⟩:=bind_of h
   refine rc [] 2 [9,11,13,19,20,21,22] [] [(9,rs3 r5.1),(11,rs3 r6.1),(13,rs9 r8),(19,.str r13.1),(20,vi r13.2),(21,.str r14.1),(22,vi r14.2)] [] (ok_subst_Expand n r5.1 r12 _ hr14) (To.thenN (Wp.seq (Wp.seq (rg [9,11,13,19,20,129] [] [(9,rs3 r5.1),(11,rs3 r6.1),(13,rs9 r8),(19,.str r13.1),(20,vi r13.2),(129,vb (bif (!(r13.1 == r14.1)) then true else (r13.2 != r14.2)))] [] (To.thenN (cn h (fun h=>?_) (fun h=>?_)))))))
   ·refine Wp.seq (rg [8] [] [(8,vb false)] [] (To.thenN (Wp.ret (To.thenR ?_))))
    cases h
    exact To.done hΓ (by kernel_rfl)
   ·refine Wp.skip (To.thenN (Wp.seq ?_))
    obtain ⟨r15,hr15,h⟩:=bind_of h
    refine rc [] 2 [9,11,13,19,20,23,24] [] [(9,rs3 r5.1),(11,rs3 r6.1),(13,rs9 r8),(19,.str r13.1),(20,vi r13.2),(23,.str r15.1),(24,vi r15.2)] [] (ok_subst_Expand n r6.1 r8 _ hr15) (To.thenN (Wp.seq ?_))
    obtain ⟨r16,hr16,h⟩:=bind_of h
    obtain ⟨r17,hr17,h⟩:=bind_of h
    obtain ⟨hc24,h⟩:=chk_of h
    obtain ⟨r18,hr18,h⟩:=bind_of h
    refine rr [] [(1,.str r16),(3,.str r17),(6,.tup [.str r18.1,vi r18.2])] [] [19,20,23,24,25,26] [] [(19,.str r13.1),(20,vi r13.2),(23,.str r15.1),(24,vi r15.2),(25,.str r18.1),(26,vi r18.2)] [] [_,_,_,_] (AllP.cons (c1 (ok_tmpl_Text n r5.1 _ hr16)) (AllP.cons (c1 (ok_tmpl_Text n r6.1 _ hr17)) (AllP.cons hc24 (AllP.cons (c1 (ok_subst_Text n (r16 ++ r17) r8 _ hr18)) AllP.nil)))) (To.thenN (Wp.seq (Wp.seq (rg [19,20,23,24,25,26,147] [] [(19,.str r13.1),(20,vi r13.2),(23,.str r15.1),(24,vi r15.2),(25,.str r18.1),(26,vi r18.2),(147,vb (r13.2 != 0))] [] (To.thenN (cn h (fun h=>?_) (fun h=>?_)))))))
    ·refine Wp.seq ?_
     obtain ⟨r19,hr19,h⟩:=bind_of h
     refine rr [] [(8,vb r19)] [] [8] [] [(8,vb (bif (bif (r18.2 == r13.2) then (r18.1 == []) else false) then r19 else false))] [] [(((bif (r18.2 == r13.2) then (r18.1 == []) else false) == true) = true → CX Tryd.prog 8 [] (vb r19))] (AllP.cons (fun hg=>cx (ok_law14_awake n  _ (if_t hg hr19))) AllP.nil) (To.thenN (Wp.ret (To.thenR ?_)))
     cases h
     exact To.done hΓ (by kernel_rfl)
    ·refine Wp.skip (To.thenN (Wp.seq (Wp.seq (rg [19,23,24,25,26,159] [] [(19,.str r13.1),(23,.str r15.1),(24,vi r15.2),(25,.str r18.1),(26,vi r18.2),(159,vb (r15.2 != 0))] [] (To.thenN (cn h (fun h=>?_) (fun h=>?_)))))))
     ·refine Wp.seq ?_
      obtain ⟨r20,hr20,h⟩:=bind_of h
      refine rr [] [(12,vb r20)] [] [8] [] [(8,vb (bif (bif (bif (r18.2 == r15.2) then true else (r18.2 == 9)) then (r18.1 == []) else false) then r20 else false))] [] [(((bif (bif (r18.2 == r15.2) then true else (r18.2 == 9)) then (r18.1 == []) else false) == true) = true → CX Tryd.prog 8 [] (vb r20))] (AllP.cons (fun hg=>cx (ok_law14_awake n  _ (if_t hg hr20))) AllP.nil) (To.thenN (Wp.ret (To.thenR ?_)))
      cases h
      exact To.done hΓ (by kernel_rfl)
     ·refine Wp.skip (To.thenN (Wp.seq (Wp.seq (rg [19,23,25,26,179] [] [(19,.str r13.1),(23,.str r15.1),(25,.str r18.1),(26,vi r18.2),(179,vb (decide ((IntKind.wrap .i64 ((List.length r13.1:Int) + (List.length r15.1:Int))) > 8192)))] [] (To.thenN (cn h (fun h=>?_) (fun h=>?_)))))))
      ·refine Wp.seq ?_
       obtain ⟨r21,hr21,h⟩:=bind_of h
       refine rr [] [(3,vb r21)] [] [8] [] [(8,vb (bif (r18.2 == 9) then r21 else false))] [] [(((r18.2 == 9) == true) = true → CX Tryd.prog 8 [] (vb r21))] (AllP.cons (fun hg=>cx (ok_law14_awake n  _ (if_t hg hr21))) AllP.nil) (To.thenN (Wp.ret (To.thenR ?_)))
       cases h
       exact To.done hΓ (by kernel_rfl)
      ·refine Wp.skip (To.thenN (Wp.seq ?_))
       obtain ⟨hc23,h⟩:=chk_of h
       obtain ⟨r22,hr22,h⟩:=bind_of h
       refine rr [] [(10,vb r22)] [] [8] [] [(8,vb (bif (bif (r18.1 == (r13.1 ++ r15.1)) then (r18.2 == 0) else false) then r22 else false))] [] [_,(((bif (r18.1 == (r13.1 ++ r15.1)) then (r18.2 == 0) else false) == true) = true → CX Tryd.prog 8 [] (vb r22))] (AllP.cons hc23 (AllP.cons (fun hg=>cx (ok_law14_awake n  _ (if_t hg hr22))) AllP.nil)) (To.thenN (Wp.ret ?_))
       cases h
       exact To.done hΓ (by kernel_rfl)
structure S_ref14_Said where
 f_Text:List UInt8
 f_Key:List UInt8
 f_Why:List UInt8
 f_E:Int
structure S_ref13_Part where
 f_Name:List UInt8
 f_Text:List UInt8
 f_Op:Int
 f_Sub:List (S_ref13_Part)
end Go.Proofs.YtibgdilkodjojaaDoor.M
