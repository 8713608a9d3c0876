import Derived.Test.YtibgdilkodjojaaGreatDoorQEG14
set_option linter.all false
namespace Go.Proofs.YtibgdilkodjojaaGreatDoor.M
open Go.RowKit Go.Proofs.YtibgdilkodjojaaGreatDoor.RX
set_option maxRecDepth 100000
def subst_Expand (n:Nat) (a0:List (S_tmpl_Part)) (a1:List (S_api_Var)):Option ((List UInt8) × Int) :=
 (subst_expand n a0 a1).bind fun r1 =>
 some (r1.1,r1.2.f_e)
abbrev qc22 (x:S_subst_fault):List D:=[vi x.f_e,.str x.f_key,.str x.f_why]
theorem ok_subst_Expand (n:Nat) (a0:List (S_tmpl_Part)) (a1:List (S_api_Var)) (r:(List UInt8) × Int) (h:subst_Expand n a0 a1 = some r):CallsX Tryz.prog 46 [rs3 a0,rs15 a1] (.tup [.str r.1,vi r.2]):=by
 unfold subst_Expand at h
 refine xo Tryz.f46 rfl fun F0 w0 _=>?_
 refine Wp.seq (rg [0,1] [] [(0,rs3 a0),(1,rs15 a1)] [] (To.thenN (Wp.seq ?_)))
 obtain ⟨r1,hr1,h⟩:=bind_of h
 refine rc [] 2 [6,7] [7] [(6,.str r1.1),(7,.own 7 0)] [(7,111,qc22 r1.2)] (ok_subst_expand n a0 a1 _ hr1) (To.thenN (Wp.seq (Wp.regionD hm hΓ [] [4,5] [] (K':=[(4,.str r1.1),(5,vi r1.2.f_e)]) (L':=[]) (ob:=[]) (by kernel_rfl) AllP.nil (To.thenN (Wp.ret ?_)))))
 cases h
 exact To.done hΓ (by kernel_rfl)
def subst_Text (n:Nat) (a0:List UInt8) (a1:List (S_api_Var)):Option ((List UInt8) × Int) :=
 (tmpl_Parse n a0).bind fun r1 =>
 if (r1.2 != 0) = true then (some ([],r1.2))
 else ((subst_Expand n r1.1 a1).bind fun r2 =>
 some (r2.1,r2.2))
theorem ok_subst_Text (n:Nat) (a0:List UInt8) (a1:List (S_api_Var)) (r:(List UInt8) × Int) (h:subst_Text n a0 a1 = some r):CallsX Tryz.prog 25 [.str a0,rs15 a1] (.tup [.str r.1,vi r.2]):=by
 unfold subst_Text at h
 refine xo Tryz.f25 rfl fun F0 w0 _=>?_
 refine Wp.seq (rg [0,1] [] [(0,.str a0),(1,rs15 a1)] [] (To.thenN (Wp.seq ?_)))
 obtain ⟨r1,hr1,h⟩:=bind_of h
 refine rc [] 1 [1,6,7] [] [(1,rs15 a1),(6,rs3 r1.1),(7,vi r1.2)] [] (ok_tmpl_Parse n a0 _ hr1) (To.thenN (Wp.seq (Wp.seq (rg [1,6,7,14] [] [(1,rs15 a1),(6,rs3 r1.1),(7,vi r1.2),(14,vb (r1.2 != 0))] [] (To.thenN (cn h (fun h=>?_) (fun h=>?_)))))))
 ·refine Wp.seq (rg [4,5] [] [(4,.str []),(5,vi r1.2)] [] (To.thenN (Wp.ret (To.thenR ?_))))
  cases h
  exact To.done hΓ (by kernel_rfl)
 ·refine Wp.skip (To.thenN (Wp.seq ?_))
  obtain ⟨r2,hr2,h⟩:=bind_of h
  refine rc [] 2 [4,5] [] [(4,.str r2.1),(5,vi r2.2)] [] (ok_subst_Expand n r1.1 a1 _ hr2) (To.thenN (Wp.ret ?_))
  cases h
  exact To.done hΓ (by kernel_rfl)
theorem good_E_api_Var (l:List (S_api_Var)):GoodR (.recs (S_api_Var.mk [] []) E_api_Var l):=⟨Nat.le_of_ble_eq_true (by kernel_rfl),fun _=>⟨rfl,rfl⟩⟩
def law14_awake (n:Nat):Option (Bool) :=
 (subst_Text n [36,123,65,125,45,36,123,66,58,45,36,65,125] ([(S_api_Var.mk [65] [120])])).bind fun r1 =>
 (subst_Text n [36,123,66,63,103,111,110,101,125] ([(S_api_Var.mk [65] [120])])).bind fun r2 =>
 some (bif (bif (r1.1 == [120,45,120]) then (r1.2 == 0) else false) then (r2.2 == 4) else false)
abbrev rc23 (l:List (S_api_Var)):D:=.rowc false (α:=S_api_Var) zx14 E_api_Var l
abbrev rc24 (l:List (S_api_Var)):D:=.rowc true (α:=S_api_Var) zx14 E_api_Var l
theorem ok_law14_awake (n:Nat) (r:Bool) (h:law14_awake n = some r):CallsX Tryz.prog 7 [] (vb r):=by
 unfold law14_awake at h
 refine xo Tryz.f7 rfl fun F0 w0 _=>?_
 refine Wp.seq (rg [] [] [] [] (To.thenN (Wp.seq (rr [] [(1,rs15 ([(S_api_Var.mk [65] [120])]))] [] [1] [7] [(1,.row 7)] [(7,48,[rc23 ([(S_api_Var.mk [65] [120])])])] [(MkOb 2 [.str [65],.str [120]] 1 (rs15 ([(S_api_Var.mk [65] [120])])) ∧ GoodR (rs15 ([(S_api_Var.mk [65] [120])])))] (AllP.cons (mkOb (by kernel_rfl) rfl (by kernel_rfl) (good_E_api_Var _)) AllP.nil) (To.thenN (Wp.seq ?_))))))
 obtain ⟨r1,hr1,h⟩:=bind_of h
 refine rc [(1,[7])] 1 [1,2,3] [7] [(1,.row 7),(2,.str r1.1),(3,vi r1.2)] [(7,48,[rc24 ([(S_api_Var.mk [65] [120])])])] (ok_subst_Text n [36,123,65,125,45,36,123,66,58,45,36,65,125] ([(S_api_Var.mk [65] [120])]) _ hr1) (To.thenN (Wp.seq ?_))
 obtain ⟨r2,hr2,h⟩:=bind_of h
 refine rc [] 1 [2,3,5] [] [(2,.str r1.1),(3,vi r1.2),(5,vi r2.2)] [] (ok_subst_Text n [36,123,66,63,103,111,110,101,125] ([(S_api_Var.mk [65] [120])]) _ hr2) (To.thenN (Wp.seq (rg [0] [] [(0,vb (bif (bif (r1.1 == [120,45,120]) then (r1.2 == 0) else false) then (r2.2 == 4) else false))] [] (To.thenN (Wp.ret ?_)))))
 cases h
 exact To.done hΓ (by kernel_rfl)
def ref02_Kind (a0:Int):Int :=
 if (bif (decide (a0 ≥ 97)) then (decide (a0 ≤ 122)) else false) = true then 1
 else (if (bif (decide (a0 ≥ 65)) then (decide (a0 ≤ 90)) else false) = true then 2
 else (if (bif (decide (a0 ≥ 48)) then (decide (a0 ≤ 57)) else false) = true then 3
 else (if (a0 == 95) = true then 4
 else (if (a0 == 45) = true then 5
 else (if (a0 == 46) = true then 6
 else 0)))))
theorem ok_ref02_Kind (a0:Int) (r:Int) (h:ref02_Kind a0 = r):CallsX Tryz.prog 70 [.val (.int .u8 a0)] (vi r):=by
 unfold ref02_Kind at h
 refine xo Tryz.f70 rfl fun F0 w0 _=>?_
 refine Wp.seq (rg [0] [] [(0,.val (.int .u8 a0))] [] (To.thenN (Wp.seq (Wp.seq (rg [0,8] [] [(0,.val (.int .u8 a0)),(8,vb (ex15 a0))] [] (To.thenN (cn h (fun h=>?_) (fun h=>?_))))))))
 ·refine Wp.seq (rg [2] [] [(2,vi 1)] [] (To.thenN (Wp.ret (To.thenR ?_))))
  cases h
  exact To.done hΓ (by kernel_rfl)
 ·refine Wp.skip (To.thenN (Wp.seq (Wp.seq (rg [0,14] [] [(0,.val (.int .u8 a0)),(14,vb (ex17 a0))] [] (To.thenN (cn h (fun h=>?_) (fun h=>?_)))))))
  ·refine Wp.seq (rg [2] [] [(2,vi 2)] [] (To.thenN (Wp.ret (To.thenR ?_))))
   cases h
   exact To.done hΓ (by kernel_rfl)
  ·refine Wp.skip (To.thenN (Wp.seq (Wp.seq (rg [0,20] [] [(0,.val (.int .u8 a0)),(20,vb (ex16 a0))] [] (To.thenN (cn h (fun h=>?_) (fun h=>?_)))))))
   ·refine Wp.seq (rg [2] [] [(2,vi 3)] [] (To.thenN (Wp.ret (To.thenR ?_))))
    cases h
    exact To.done hΓ (by kernel_rfl)
   ·refine Wp.skip (To.thenN (Wp.seq (Wp.seq (rg [0,22] [] [(0,.val (.int .u8 a0)),(22,vb (a0 == 95))] [] (To.thenN (cn h (fun h=>?_) (fun h=>?_)))))))
    ·refine Wp.seq (rg [2] [] [(2,vi 4)] [] (To.thenN (Wp.ret (To.thenR ?_))))
     cases h
     exact To.done hΓ (by kernel_rfl)
    ·refine Wp.skip (To.thenN (Wp.seq (Wp.seq (rg [0,24] [] [(0,.val (.int .u8 a0)),(24,vb (a0 == 45))] [] (To.thenN (cn h (fun h=>?_) (fun h=>?_)))))))
     ·refine Wp.seq (rg [2] [] [(2,vi 5)] [] (To.thenN (Wp.ret (To.thenR ?_))))
      cases h
      exact To.done hΓ (by kernel_rfl)
     ·refine Wp.skip (To.thenN (Wp.seq (Wp.seq (rg [26] [] [(26,vb (a0 == 46))] [] (To.thenN (cn h (fun h=>?_) (fun h=>?_)))))))
      ·refine Wp.seq (rg [2] [] [(2,vi 6)] [] (To.thenN (Wp.ret (To.thenR ?_))))
       cases h
       exact To.done hΓ (by kernel_rfl)
      ·refine Wp.skip (To.thenN (Wp.seq (rg [2] [] [(2,vi 0)] [] (To.thenN (Wp.ret ?_)))))
       cases h
       exact To.done hΓ (by kernel_rfl)
def ref02_Variable_l1 (n:Nat) (v0:List UInt8):Nat → Int → Option (Sum (Unit) (Bool))
 | 0,_=>none
 | k + 1,v3=>if (decide (v3 < (List.length v0:Int))) = true then (if (decide (0 ≤ v3 ∧ v3 < (List.length v0:Int))) = true then (lett ((bif (bif ((ref02_Kind (((v0)[Int.toNat v3]?.getD 0).toNat:Int)) == 0) then true else (decide ((ref02_Kind (((v0)[Int.toNat v3]?.getD 0).toNat:Int)) > 4))) then true else (bif (v3 == 0) then ((ref02_Kind (((v0)[Int.toNat v3]?.getD 0).toNat:Int)) == 3) else false)):Bool) fun x1 =>
 if x1 = true then (some (.inr false))
 else (ref02_Variable_l1 n v0 k (IntKind.wrap .i64 (v3 + 1)))) else none)
 else (some (.inl ()))
theorem ok_ref02_Variable_l1 (n:Nat) (v0:List UInt8) {F0:Fz} {w0:Pt Tryz.prog} {Q:Exit → Act → World → Prop} (k:Nat):∀ (v3:Int) (o:Sum (Unit) (Bool)),ref02_Variable_l1 n v0 k v3 = some o → (Sum.elim (fun s=>To 37 F0 w0 [] [] (.exit 0) Q) (fun s=>To 37 F0 w0 [(2,vb s)] [] .ret Q)) o → WL Tryz.prog 37 F0 w0 [(0,.str v0),(3,vi v3)] [] (cI (cI (cB (cA (cB (cB (cF Tryz.f47))))))) Q:=by
 induction k with
 | zero=>intro v3 o h; cases h
 | succ k ih =>
  intro v3 o h hQ
  rw [ref02_Variable_l1] at h
  refine WL.round (Wp.seq (Wp.seq (rg [0,3,16] [] [(0,.str v0),(3,vi v3),(16,vb (ex19 v3 v0))] [] (To.thenN (cn h (fun h=>?_) (fun h=>?_))))))
  ·refine Wp.skip (To.thenN (Wp.seq (Wp.block (Wp.seq ?_))))
   obtain ⟨hc2,h⟩:=chk_of h
   refine rr [] [(3,vi (ref02_Kind (ex18 v0 v3)))] [] [0,3,4] [] [(0,.str v0),(3,vi v3),(4,vi (ref02_Kind (ex18 v0 v3)))] [] [_,_] (AllP.cons hc2 (AllP.cons (c1 (ok_ref02_Kind (ex18 v0 v3) _ rfl)) AllP.nil)) (To.thenN (Wp.seq ?_))
   obtain ⟨x1,hx1,h⟩:=lett_of h
   refine rg [0,3,36] [] [(0,.str v0),(3,vi v3),(36,vb (bif (bif ((ref02_Kind (ex18 v0 v3)) == 0) then true else (decide ((ref02_Kind (ex18 v0 v3)) > 4))) then true else (bif (v3 == 0) then ((ref02_Kind (ex18 v0 v3)) == 3) else false)))] [] (To.eq (K':=[(0,.str v0),(3,vi v3),(36,vb x1)]) (L':=[]) (by cases hx1; rfl) (by cases hx1; rfl) (To.thenN (cn h (fun h=>?_) (fun h=>?_))))
   ·refine Wp.seq (rg [2] [] [(2,vb false)] [] (To.thenN (Wp.ret (To.blockR (To.thenR (To.thenR ?_))))))
    cases h
    exact hQ
   ·refine Wp.skip (To.blockN (To.thenN (rg [0,3] [] [(0,.str v0),(3,vi (IntKind.wrap .i64 (v3 + 1)))] [] (kt [0,3] [] [(0,.str v0),(3,vi (IntKind.wrap .i64 (v3 + 1)))] [] (To.again ?_)))))
    exact ih (IntKind.wrap .i64 (v3 + 1)) _ h hQ
  ·refine Wp.exit (To.thenX (To.thenX (kt [] [] [] [] ?_)))
   cases h
   exact hQ
def ref02_Variable (n:Nat) (a0:List UInt8):Option (Bool) :=
 if (bif (decide ((List.length a0:Int) < 1)) then true else (decide ((List.length a0:Int) > 24))) = true then some false
 else ((ref02_Variable_l1 n a0 n 0).bind fun o1 =>
 (Sum.elim (fun o1=>some true) (fun o1=>some o1)) o1)
theorem ok_ref02_Variable (n:Nat) (a0:List UInt8) (r:Bool) (h:ref02_Variable n a0 = some r):CallsX Tryz.prog 47 [.str a0] (vb r):=by
 unfold ref02_Variable at h
 refine xo Tryz.f47 rfl fun F0 w0 _=>?_
 refine Wp.seq (rg [0] [] [(0,.str a0)] [] (To.thenN (Wp.seq (Wp.seq (rg [0,12] [] [(0,.str a0),(12,vb (ex21 a0))] [] (To.thenN (cn h (fun h=>?_) (fun h=>?_))))))))
 ·refine Wp.seq (rg [2] [] [(2,vb false)] [] (To.thenN (Wp.ret (To.thenR ?_))))
  cases h
  exact To.done hΓ (by kernel_rfl)
 ·refine Wp.skip (To.thenN (Wp.seq (Wp.seq (rg [0,3] [] [(0,.str a0),(3,vi 0)] [] (To.thenN (Wp.block ?_))))))
  obtain ⟨o1,ho1,h⟩:=bind_of h
  refine kw [0,3] [] [(0,.str a0),(3,vi 0)] [] (Wp.loopL (ok_ref02_Variable_l1 n a0 n 0 o1 ho1 ?_))
  rcases o1 with o1 | o1
  ·replace h:=sum_l h
   refine To.blockX (To.thenN (Wp.seq (rg [2] [] [(2,vb true)] [] (To.thenN (Wp.ret ?_)))))
   cases h
   exact To.done hΓ (by kernel_rfl)
  ·replace h:=sum_r h
   refine To.blockR (To.thenR ?_)
   cases h
   exact To.done hΓ (by kernel_rfl)
def ref12_Last_l1 (n:Nat) (v0:List (S_api_Var)) (v1:List UInt8):Nat → Int → Option (Sum (Unit) ((List UInt8) × Bool))
 | 0,_=>none
 | k + 1,v6=>if (decide (v6 ≥ 0)) = true then (if (decide (0 ≤ v6 ∧ v6 < (List.length v0:Int))) = true then (if ((((v0)[Int.toNat v6]?.getD (S_api_Var.mk [] [])).f_Key) == v1) = true then (if (decide (0 ≤ v6 ∧ v6 < (List.length v0:Int))) = true then (some (.inr (((v0)[Int.toNat v6]?.getD (S_api_Var.mk [] [])).f_Val,true))) else none)
 else (ref12_Last_l1 n v0 v1 k (IntKind.wrap .i64 (v6 - 1)))) else none)
 else (some (.inl ()))
theorem ok_ref12_Last_l1 (n:Nat) (v0:List (S_api_Var)) (v1:List UInt8) {F0:Fz} {w0:Pt Tryz.prog} {Q:Exit → Act → World → Prop} (k:Nat):∀ (v6:Int) (o:Sum (Unit) ((List UInt8) × Bool)),ref12_Last_l1 n v0 v1 k v6 = some o → (Sum.elim (fun s=>To 26 F0 w0 [] [] (.exit 0) Q) (fun s=>To 26 F0 w0 [(4,.str s.1),(5,vb s.2)] [] .ret Q)) o → WL Tryz.prog 26 F0 w0 [(0,rs15 v0),(1,.str v1),(6,vi v6)] [] (cI (cI (cB (cA (cB (cF Tryz.f17)))))) Q:=by
 induction k with
 | zero=>intro v6 o h; cases h
 | succ k ih =>
  intro v6 o h hQ
  rw [ref12_Last_l1] at h
  refine WL.round (Wp.seq (Wp.seq (rg [0,1,6,11] [] [(0,rs15 v0),(1,.str v1),(6,vi v6),(11,vb (decide (v6 ≥ 0)))] [] (To.thenN (cn h (fun h=>?_) (fun h=>?_))))))
  ·refine Wp.skip (To.thenN (Wp.seq (Wp.block (Wp.seq ?_))))
   obtain ⟨hc2,h⟩:=chk_of h
   refine r0 [0,1,6,20] [] [(0,rs15 v0),(1,.str v1),(6,vi v6),(20,vb (((ex13 v0 v6).f_Key) == v1))] [] (AllP.cons hc2 AllP.nil) (To.thenN (cn h (fun h=>?_) (fun h=>?_)))
   ·refine Wp.seq ?_
    obtain ⟨hc1,h⟩:=chk_of h
    refine r0 [4,5] [] [(4,.str ((ex13 v0 v6).f_Val)),(5,vb true)] [] (AllP.cons hc1 AllP.nil) (To.thenN (Wp.ret (To.blockR (To.thenR (To.thenR ?_)))))
    cases h
    exact hQ
   ·refine Wp.skip (To.blockN (To.thenN (rg [0,1,6] [] [(0,rs15 v0),(1,.str v1),(6,vi (IntKind.wrap .i64 (v6 - 1)))] [] (kt [0,1,6] [] [(0,rs15 v0),(1,.str v1),(6,vi (IntKind.wrap .i64 (v6 - 1)))] [] (To.again ?_)))))
    exact ih (IntKind.wrap .i64 (v6 - 1)) _ h hQ
  ·refine Wp.exit (To.thenX (To.thenX (kt [] [] [] [] ?_)))
   cases h
   exact hQ
def ref12_Last (n:Nat) (a0:List (S_api_Var)) (a1:List UInt8):Option ((List UInt8) × Bool) :=
 (ref12_Last_l1 n a0 a1 n (IntKind.wrap .i64 ((List.length a0:Int) - 1))).bind fun o1 =>
 (Sum.elim (fun o1=>some ([],false)) (fun o1=>some (o1.1,o1.2))) o1
theorem ok_ref12_Last (n:Nat) (a0:List (S_api_Var)) (a1:List UInt8) (r:(List UInt8) × Bool) (h:ref12_Last n a0 a1 = some r):CallsX Tryz.prog 17 [rs15 a0,.str a1] (.tup [.str r.1,vb r.2]):=by
 unfold ref12_Last at h
 refine xo Tryz.f17 rfl fun F0 w0 _=>?_
 refine Wp.seq (rg [0,1] [] [(0,rs15 a0),(1,.str a1)] [] (To.thenN (Wp.seq (Wp.seq (rg [0,1,6] [] [(0,rs15 a0),(1,.str a1),(6,vi (IntKind.wrap .i64 ((List.length a0:Int) - 1)))] [] (To.thenN (Wp.block ?_)))))))
 obtain ⟨o1,ho1,h⟩:=bind_of h
 refine kw [0,1,6] [] [(0,rs15 a0),(1,.str a1),(6,vi (IntKind.wrap .i64 ((List.length a0:Int) - 1)))] [] (Wp.loopL (ok_ref12_Last_l1 n a0 a1 n (IntKind.wrap .i64 ((List.length a0:Int) - 1)) o1 ho1 ?_))
 rcases o1 with o1 | o1
 ·replace h:=sum_l h
  refine To.blockX (To.thenN (Wp.seq (rg [4,5] [] [(4,.str []),(5,vb false)] [] (To.thenN (Wp.ret ?_)))))
  cases h
  exact To.done hΓ (by kernel_rfl)
 ·replace h:=sum_r h
  refine To.blockR (To.thenR ?_)
  cases h
  exact To.done hΓ (by kernel_rfl)
def ref12_Gathered_j2 (n:Nat) (v0:List (S_api_Var)) (v3:List (List UInt8)) (v4:Int):Option ((List (List UInt8))) :=
 if (decide (0 ≤ v4 ∧ v4 < (List.length v0:Int))) = true then ((ref02_Variable n (((v0)[Int.toNat v4]?.getD (S_api_Var.mk [] [])).f_Key)).bind fun r1 =>
 if r1 = true then (if (decide (0 ≤ v4 ∧ v4 < (List.length v0:Int))) = true then (if (decide ((List.length v3 + List.length ([((v0)[Int.toNat v4]?.getD (S_api_Var.mk [] [])).f_Key]:List (List UInt8))) * (16 + 1) ≤ limit)) = true then (some (v3 ++ ([((v0)[Int.toNat v4]?.getD (S_api_Var.mk [] [])).f_Key]:List (List UInt8)))) else none) else none)
 else some v3) else none
abbrev ex68 (x0:List (S_api_Var)) (x1:Int):=([(ex13 x0 x1).f_Key]:List (List UInt8))
theorem ok_ref12_Gathered_j2 (n:Nat) (v0:List (S_api_Var)) (v3:List (List UInt8)) (v4:Int) (o:(List (List UInt8))) (h:ref12_Gathered_j2 n v0 v3 v4 = some o) {F0:Fz} {w0:Pt Tryz.prog} {Q:Exit → Act → World → Prop} (hQ:To 58 F0 w0 [(0,rs15 v0),(3,.row 1003),(4,vi v4)] [(1003,9,[rc1 o])] .normal Q):Wp Tryz.prog 58 F0 w0 [(0,rs15 v0),(3,.row 1003),(4,vi v4)] [(1003,9,[rc1 v3])] (cA (cB (cI (cI (cB (cA (cB (cB (cF Tryz.f26))))))))) Q:=by
 unfold ref12_Gathered_j2 at h
 refine Wp.block (Wp.seq ?_)
 obtain ⟨hc4,h⟩:=chk_of h
 obtain ⟨r1,hr1,h⟩:=bind_of h
 refine rr [] [(5,vb r1)] [] [0,3,4,21] [1003] [(0,rs15 v0),(3,.row 1003),(4,vi v4),(21,vb r1)] [(1003,9,[rc1 v3])] [_,_] (AllP.cons hc4 (AllP.cons (c1 (ok_ref02_Variable n ((ex13 v0 v4).f_Key) _ hr1)) AllP.nil)) (To.thenN (cn h (fun h=>?_) (fun h=>?_)))
 ·obtain ⟨hc2,h⟩:=chk_of h
  obtain ⟨hc3,h⟩:=chk_of h
  refine rr [] [(6,ls ([(ex13 v0 v4).f_Key])),(7,ls (v3 ++ (ex68 v0 v4)))] [] [0,3,4] [29] [(0,rs15 v0),(3,.row 29),(4,vi v4)] [(29,9,[rc1 (v3 ++ (ex68 v0 v4))])] [_,(MkOb 1 [.str ((ex13 v0 v4).f_Key)] 1 (ls ([(ex13 v0 v4).f_Key])) ∧ GoodR (ls ([(ex13 v0 v4).f_Key]))),_,(AppOb [] E_string v3 (List.flatMap E_string (ex68 v0 v4)) (List.length (ex68 v0 v4)) (ls (v3 ++ (ex68 v0 v4))) ∧ GoodR (ls (v3 ++ (ex68 v0 v4))))] (AllP.cons hc2 (AllP.cons (mkOb (by kernel_rfl) rfl (by kernel_rfl) (good_E_string _)) (AllP.cons hc3 (AllP.cons (appOb rfl rfl (good_E_string _)) AllP.nil)))) (To.blockN (nt [0,3,4] [29] [(29,1003)] [0,3,4] [1003] [(0,rs15 v0),(3,.row 1003),(4,vi v4)] [(1003,9,[rc1 (v3 ++ (ex68 v0 v4))])] ?_))
  cases h
  exact hQ
 ·refine Wp.skip (To.blockN (kt [0,3,4] [1003] [(0,rs15 v0),(3,.row 1003),(4,vi v4)] [(1003,9,[rc1 v3])] ?_))
  cases h
  exact hQ
def ref12_Gathered_l1 (n:Nat) (v0:List (S_api_Var)):Nat → (List (List UInt8)) → Int → Option ((List (List UInt8)))
 | 0,_,_=>none
 | k + 1,v3,v4=>if (decide (v4 < (List.length v0:Int))) = true then ((ref12_Gathered_j2 n v0 v3 v4).bind fun o1 =>
 ref12_Gathered_l1 n v0 k o1 (IntKind.wrap .i64 (v4 + 1)))
 else some v3
theorem ok_ref12_Gathered_l1 (n:Nat) (v0:List (S_api_Var)) {F0:Fz} {w0:Pt Tryz.prog} {Q:Exit → Act → World → Prop} (k:Nat):∀ (v3:List (List UInt8)) (v4:Int) (o:(List (List UInt8))),ref12_Gathered_l1 n v0 k v3 v4 = some o → To 58 F0 w0 [(0,rs15 v0),(3,.row 1003)] [(1003,9,[rc1 o])] (.exit 0) Q → WL Tryz.prog 58 F0 w0 [(0,rs15 v0),(3,.row 1003),(4,vi v4)] [(1003,9,[rc1 v3])] (cI (cI (cB (cA (cB (cB (cF Tryz.f26))))))) Q:=by
 induction k with
 | zero=>intro v3 v4 o h; cases h
 | succ k ih =>
  intro v3 v4 o h hQ
  rw [ref12_Gathered_l1] at h
  refine WL.round (Wp.seq (Wp.seq (rg [0,3,4,13] [1003] [(0,rs15 v0),(3,.row 1003),(4,vi v4),(13,vb (decide (v4 < (List.length v0:Int))))] [(1003,9,[rc1 v3])] (To.thenN (cn h (fun h=>?_) (fun h=>?_))))))
  ·refine Wp.skip (To.thenN (Wp.seq ?_))
   obtain ⟨o1,ho1,h⟩:=bind_of h
   refine kw [0,3,4] [1003] [(0,rs15 v0),(3,.row 1003),(4,vi v4)] [(1003,9,[rc1 v3])] (ok_ref12_Gathered_j2 n v0 v3 v4 o1 ho1 (To.thenN (rg [0,3,4] [1003] [(0,rs15 v0),(3,.row 1003),(ex12 v4)] [(1003,9,[rc1 o1])] (kt [0,3,4] [1003] [(0,rs15 v0),(3,.row 1003),(ex12 v4)] [(1003,9,[rc1 o1])] (To.again ?_)))))
   exact ih o1 (IntKind.wrap .i64 (v4 + 1)) _ h hQ
  ·refine Wp.exit (To.thenX (To.thenX (kt [0,3] [1003] [(0,rs15 v0),(3,.row 1003)] [(1003,9,[rc1 v3])] ?_)))
   cases h
   exact hQ
def ref12_Gathered_l3 (n:Nat) (v0:List (S_api_Var)) (v3:List (List UInt8)):Nat → (List (S_api_Var)) → Int → Option ((List (S_api_Var)))
 | 0,_,_=>none
 | k + 1,v5,v6=>if (decide (v6 < (List.length v3:Int))) = true then (if (decide (0 ≤ v6 ∧ v6 < (List.length v3:Int))) = true then ((ref12_Last n v0 ((v3)[Int.toNat v6]?.getD [])).bind fun r3 =>
 if (decide (0 ≤ v6 ∧ v6 < (List.length v3:Int))) = true then (if (decide ((List.length v5 + List.length ([(S_api_Var.mk ((v3)[Int.toNat v6]?.getD []) r3.1)]:List (S_api_Var))) * (32 + 1) ≤ limit)) = true then (ref12_Gathered_l3 n v0 v3 k (v5 ++ ([(S_api_Var.mk ((v3)[Int.toNat v6]?.getD []) r3.1)]:List (S_api_Var))) (IntKind.wrap .i64 (v6 + 1))) else none) else none) else none)
 else some v5
abbrev ex34 (x0:Int):Nat × D:=(6,vi (IntKind.wrap .i64 (x0 + 1)))
theorem ok_ref12_Gathered_l3 (n:Nat) (v0:List (S_api_Var)) (v3:List (List UInt8)) {F0:Fz} {w0:Pt Tryz.prog} {Q:Exit → Act → World → Prop} (k:Nat):∀ (v5:List (S_api_Var)) (v6:Int) (o:(List (S_api_Var))),ref12_Gathered_l3 n v0 v3 k v5 v6 = some o → To 58 F0 w0 [(5,.row 1005)] [(1005,48,[rc23 o])] (.exit 2) Q → WL Tryz.prog 58 F0 w0 [(0,rs15 v0),(3,ls v3),(5,.row 1005),(6,vi v6)] [(1005,48,[rc23 v5])] (cI (cI (cB (cA (cB (cB (cB (cB (cB (cF Tryz.f26)))))))))) Q:=by
 induction k with
 | zero=>intro v5 v6 o h; cases h
 | succ k ih =>
  intro v5 v6 o h hQ
  rw [ref12_Gathered_l3] at h
  refine WL.round (Wp.seq (Wp.seq (rg [0,3,5,6,36] [1005] [(0,rs15 v0),(3,ls v3),(5,.row 1005),(6,vi v6),(36,vb (ex5 v6 v3))] [(1005,48,[rc23 v5])] (To.thenN (cn h (fun h=>?_) (fun h=>?_))))))
  ·refine Wp.skip (To.thenN (Wp.seq (Wp.block (Wp.seq ?_))))
   obtain ⟨hc6,h⟩:=chk_of h
   obtain ⟨r3,hr3,h⟩:=bind_of h
   refine rr [] [(5,.tup [.str r3.1,vb r3.2])] [] [0,3,5,6,7] [1005] [(0,rs15 v0),(3,ls v3),(5,.row 1005),(6,vi v6),(7,.str r3.1)] [(1005,48,[rc23 v5])] [_,_] (AllP.cons hc6 (AllP.cons (c1 (ok_ref12_Last n v0 ((v3)[Int.toNat v6]?.getD []) _ hr3)) AllP.nil)) (To.thenN ?_)
   obtain ⟨hc4,h⟩:=chk_of h
   obtain ⟨hc5,h⟩:=chk_of h
   refine rr [] [(7,rs15 ([(S_api_Var.mk ((v3)[Int.toNat v6]?.getD []) r3.1)])),(8,rs15 (v5 ++ ([(S_api_Var.mk ((v3)[Int.toNat v6]?.getD []) r3.1)]:List (S_api_Var))))] [] [0,3,5,6] [56] [(0,rs15 v0),(3,ls v3),(5,.row 56),(6,vi v6)] [(56,48,[rc23 (v5 ++ ([(S_api_Var.mk ((v3)[Int.toNat v6]?.getD []) r3.1)]:List (S_api_Var)))])] [_,(MkOb 2 [.str ((v3)[Int.toNat v6]?.getD []),.str r3.1] 1 (rs15 ([(S_api_Var.mk ((v3)[Int.toNat v6]?.getD []) r3.1)])) ∧ GoodR (rs15 ([(S_api_Var.mk ((v3)[Int.toNat v6]?.getD []) r3.1)]))),_,(AppOb zx14 E_api_Var v5 (List.flatMap E_api_Var ([(S_api_Var.mk ((v3)[Int.toNat v6]?.getD []) r3.1)]:List (S_api_Var))) (List.length ([(S_api_Var.mk ((v3)[Int.toNat v6]?.getD []) r3.1)]:List (S_api_Var))) (rs15 (v5 ++ ([(S_api_Var.mk ((v3)[Int.toNat v6]?.getD []) r3.1)]:List (S_api_Var)))) ∧ GoodR (rs15 (v5 ++ ([(S_api_Var.mk ((v3)[Int.toNat v6]?.getD []) r3.1)]:List (S_api_Var)))))] (AllP.cons hc4 (AllP.cons (mkOb (by kernel_rfl) rfl (by kernel_rfl) (good_E_api_Var _)) (AllP.cons hc5 (AllP.cons (appOb rfl rfl (good_E_api_Var _)) AllP.nil)))) (To.blockN (To.thenN (rg [0,3,5,6] [56] [(0,rs15 v0),(3,ls v3),(5,.row 56),(ex34 v6)] [(56,48,[rc23 (v5 ++ ([(S_api_Var.mk ((v3)[Int.toNat v6]?.getD []) r3.1)]:List (S_api_Var)))])] (nt [0,3,5,6] [56] [(56,1005)] [0,3,5,6] [1005] [(0,rs15 v0),(3,ls v3),(5,.row 1005),(ex34 v6)] [(1005,48,[rc23 (v5 ++ ([(S_api_Var.mk ((v3)[Int.toNat v6]?.getD []) r3.1)]:List (S_api_Var)))])] (To.again ?_)))))
   exact ih (v5 ++ ([(S_api_Var.mk ((v3)[Int.toNat v6]?.getD []) r3.1)]:List (S_api_Var))) (IntKind.wrap .i64 (v6 + 1)) _ h hQ
  ·refine Wp.exit (To.thenX (To.thenX (kt [5] [1005] [(5,.row 1005)] [(1005,48,[rc23 v5])] ?_)))
   cases h
   exact hQ
def ref12_Gathered (n:Nat) (a0:List (S_api_Var)):Option ((List (S_api_Var))) :=
 (ref12_Gathered_l1 n a0 n ([]:List (List UInt8)) 0).bind fun o1 =>
 (ref02_Sorted n o1).bind fun r2 =>
 (ref12_Gathered_l3 n a0 r2 n ([]:List (S_api_Var)) 0).bind fun o3 =>
 some o3
theorem ok_ref12_Gathered (n:Nat) (a0:List (S_api_Var)) (r:(List (S_api_Var))) (h:ref12_Gathered n a0 = some r):CallsX Tryz.prog 26 [rs15 a0] (rs15 r):=by
 unfold ref12_Gathered at h
 refine xo Tryz.f26 rfl fun F0 w0 _=>?_
 refine Wp.seq (rg [0] [] [(0,rs15 a0)] [] (To.thenN (Wp.seq (rr [] [(0,ls [])] [] [0,3] [9] [(0,rs15 a0),(3,.row 9)] [(9,9,[rc1 []])] [(MkOb 1 [] 0 (ls []) ∧ GoodR (ls []))] (AllP.cons (mkOb (by kernel_rfl) rfl (by kernel_rfl) (good_E_string _)) AllP.nil) (To.thenN (Wp.seq (Wp.seq (rg [0,3,4] [9] [(0,rs15 a0),(3,.row 9),(4,vi 0)] [(9,9,[rc1 []])] (To.thenN (Wp.block ?_))))))))))
 obtain ⟨o1,ho1,h⟩:=bind_of h
 refine nw [0,3,4] [9] [(9,1003)] [0,3,4] [1003] [(0,rs15 a0),(3,.row 1003),(4,vi 0)] [(1003,9,[rc1 []])] (Wp.loopL (ok_ref12_Gathered_l1 n a0 n ([]:List (List UInt8)) 0 o1 ho1 (To.blockX (To.thenN (Wp.seq ?_)))))
 obtain ⟨r2,hr2,h⟩:=bind_of h
 refine rc [(1,[1003])] 1 [0,3] [] [(0,rs15 a0),(3,ls r2)] [] (ok_ref02_Sorted n o1 _ hr2) (To.thenN (Wp.seq (rr [] [(0,rs15 [])] [] [0,3,5] [32] [(0,rs15 a0),(3,ls r2),(5,.row 32)] [(32,48,[rc23 []])] [(MkOb 2 [] 0 (rs15 []) ∧ GoodR (rs15 []))] (AllP.cons (mkOb (by kernel_rfl) rfl (by kernel_rfl) (good_E_api_Var _)) AllP.nil) (To.thenN (Wp.seq (Wp.seq (rg [0,3,5,6] [32] [(0,rs15 a0),(3,ls r2),(5,.row 32),(6,vi 0)] [(32,48,[rc23 []])] (To.thenN (Wp.block ?_)))))))))
 obtain ⟨o3,ho3,h⟩:=bind_of h
 refine nw [0,3,5,6] [32] [(32,1005)] [0,3,5,6] [1005] [(0,rs15 a0),(3,ls r2),(5,.row 1005),(6,vi 0)] [(1005,48,[rc23 []])] (Wp.loopL (ok_ref12_Gathered_l3 n a0 r2 n ([]:List (S_api_Var)) 0 o3 ho3 (To.blockX (To.thenN (Wp.seq (rg [2] [1005] [(2,.row 1005)] [(1005,48,[rc23 o3])] (To.thenN (Wp.ret (To.pre (St.settle (ks:=[1005]) (kk:=[2]) (kl:=[1005]) (K':=[(2,.row 1005)]) (L':=[(1005,48,[rc24 o3])]) (by kernel_rfl)) (To.pre (St.sealK [2] (K':=[(2,rs15 o3)]) (by kernel_rfl)) ?_))))))))))
 cases h
 exact To.done hΓ (by kernel_rfl)
def ref12_Of (n:Nat) (a0:List (S_api_Var)):Option ((List (S_api_Var))) :=
 (ref12_Gathered n a0).bind fun r1 =>
 if (decide ((List.length r1:Int) > 64)) = true then (if (decide (0 ≤ (64:Int) ∧ (64:Int) ≤ (List.length r1:Int))) = true then (some (List.take (Int.toNat 64) r1)) else none)
 else some r1
theorem ok_ref12_Of (n:Nat) (a0:List (S_api_Var)) (r:(List (S_api_Var))) (h:ref12_Of n a0 = some r):CallsX Tryz.prog 8 [rs15 a0] (rs15 r):=by
 unfold ref12_Of at h
 refine xo Tryz.f8 rfl fun F0 w0 _=>?_
 refine Wp.seq (rg [0] [] [(0,rs15 a0)] [] (To.thenN (Wp.seq ?_)))
 obtain ⟨r1,hr1,h⟩:=bind_of h
 refine rc [] 1 [3] [] [(3,rs15 r1)] [] (ok_ref12_Gathered n a0 _ hr1) (To.thenN (Wp.seq (Wp.seq (rg [3,8] [] [(3,rs15 r1),(8,vb (decide ((List.length r1:Int) > 64)))] [] (To.thenN (cn h (fun h=>?_) (fun h=>?_)))))))
 ·refine Wp.seq ?_
  obtain ⟨hc2,h⟩:=chk_of h
  refine r0 [2] [] [(2,rs15 (List.take (Int.toNat 64) r1))] [] (AllP.cons hc2 AllP.nil) (To.thenN (Wp.ret (To.thenR ?_)))
  cases h
  exact To.done hΓ (by kernel_rfl)
 ·refine Wp.skip (To.thenN (Wp.seq (rg [2] [] [(2,rs15 r1)] [] (To.thenN (Wp.ret ?_)))))
  cases h
  exact To.done hΓ (by kernel_rfl)
def subst_Node_1__e (n:Nat) (a0:List UInt8) (c0:List (S_api_Var)):Option ((List UInt8) × Int) :=
 (subst_Text n a0 c0).bind fun r1 =>
 some (r1.1,r1.2)
theorem ok_subst_Node_1__e (n:Nat) (a0:List UInt8) (c0:List (S_api_Var)) (r:(List UInt8) × Int) (h:subst_Node_1__e n a0 c0 = some r):CallsX Tryz.prog 28 [.str a0,.el [rs15 c0]] (.tup [.str r.1,vi r.2]):=by
 unfold subst_Node_1__e at h
 refine xo Tryz.f28 rfl fun F0 w0 _=>?_
 refine Wp.seq (rg [0,1] [] [(0,.str a0),(1,.el [rs15 c0])] [] (To.thenN (Wp.seq ?_)))
 obtain ⟨r1,hr1,h⟩:=bind_of h
 refine rc [] 2 [3,4] [] [(3,.str r1.1),(4,vi r1.2)] [] (ok_subst_Text n a0 c0 _ hr1) (To.thenN (Wp.ret ?_))
 cases h
 exact To.done hΓ (by kernel_rfl)
def node_Text (a0:List UInt8):S_api_Node :=
 (S_api_Node.mk 1 a0 [] [])
theorem ok_node_Text (a0:List UInt8) (r:S_api_Node) (h:node_Text a0 = r):CallsX Tryz.prog 48 [.str a0] (.agg (qc12 r)):=by
 unfold node_Text at h
 refine xo Tryz.f48 rfl fun F0 w0 _=>?_
 refine Wp.seq (rg [0,2] [2] [(0,.str a0),(2,.own 2 0)] [(2,25,[vi 0,.str [],.val (.slice none 0 0),.val (.slice none 0 0)])] (To.thenN (Wp.seq (rg [2] [2] [(2,.own 2 0)] [(2,25,[vi 1,.str a0,.val (.slice none 0 0),.val (.slice none 0 0)])] (To.thenN (Wp.ret (To.weak (K':=[(2,.own 2 0)]) (L':=[(2,25,[vi 1,.str a0,ls [],tn10 []])]) (.cons (.refl _) .nil) (.cons (.cons (.refl _) (.cons (.refl _) (.cons (.zero _ _) (.cons (.zeroT _ _ _) .nil)))) .nil) ?_)))))))
 cases h
 exact To.done hΓ (by kernel_rfl)
theorem good_E_api_Node (l:List (S_api_Node)):GoodR (.recs (S_api_Node.mk 0 [] [] []) E_api_Node l):=⟨Nat.le_of_ble_eq_true (by kernel_rfl),fun _=>⟨rfl,rfl⟩⟩
def node_Each__subst_Node_1_e_l1 (R_node_Each__subst_Node_1_e:S_api_Node → (List (S_api_Var)) → Option (S_api_Node × Int)) (n:Nat) (v1_0:List (S_api_Var)) (v37:List (S_api_Node)) (v38:Int):Nat → Int → S_api_Node → S_api_Node → Option (Sum (S_api_Node × S_api_Node) (Int × S_api_Node))
 | 0,_,_,_=>none
 | k + 1,v39,b4,b8=>if (decide (v39 < v38)) = true then (if (decide (0 ≤ v39 ∧ v39 < (List.length v37:Int))) = true then ((R_node_Each__subst_Node_1_e ((v37)[Int.toNat v39]?.getD (S_api_Node.mk 0 [] [] [])) v1_0).bind fun r3 =>
 if (r3.2 != 0) = true then (some (.inr (r3.2,(S_api_Node.mk 0 [] [] []))))
 else (if (decide ((List.length b8.f_Kids + List.length ([r3.1]:List (S_api_Node))) * (72 + 1) ≤ limit)) = true then (node_Each__subst_Node_1_e_l1 R_node_Each__subst_Node_1_e n v1_0 v37 v38 k (IntKind.wrap .i64 (v39 + 1)) b4 (S_api_Node.mk b8.f_Kind b8.f_Text b8.f_Keys (b8.f_Kids ++ ([r3.1]:List (S_api_Node))))) else none)) else none)
 else (some (.inl (b4,b8)))
abbrev rc25 (l:List (S_api_Node)):D:=.rowc false (α:=S_api_Node) zx9 E_api_Node l
abbrev rs26 (l:List (S_api_Node)):D:=.recs (α:=S_api_Node) zx9 E_api_Node l
abbrev hR27 (R_node_Each__subst_Node_1_e:S_api_Node → (List (S_api_Var)) → Option (S_api_Node × Int)):Prop:=∀ (a0:S_api_Node) (c0:List (S_api_Var)) (r:S_api_Node × Int),R_node_Each__subst_Node_1_e a0 c0 = some r → CallsX Tryz.prog 27 [.agg [vi a0.f_Kind,.str a0.f_Text,ls a0.f_Keys,tn10 a0.f_Kids],.fn 28 [.el [rs15 c0]]] (.tup [.agg [vi r.1.f_Kind,.str r.1.f_Text,ls r.1.f_Keys,tn10 r.1.f_Kids],vi r.2])
abbrev qc28 (k0:Nat) (x:S_api_Node):List D:=[vi x.f_Kind,.str x.f_Text,ls x.f_Keys,.row k0]
abbrev ex35 (x0:List (S_api_Node)) (x1:Int):=((x0)[Int.toNat x1]?.getD zx9)
theorem ok_node_Each__subst_Node_1_e_l1 (R_node_Each__subst_Node_1_e:S_api_Node → (List (S_api_Var)) → Option (S_api_Node × Int)) (hR_node_Each__subst_Node_1_e:hR27 R_node_Each__subst_Node_1_e) (n:Nat) (v1_0:List (S_api_Var)) (v37:List (S_api_Node)) (v38:Int) {F0:Fz} {w0:Pt Tryz.prog} {Q:Exit → Act → World → Prop} (k:Nat):∀ (v39:Int) (b4:S_api_Node) (b8:S_api_Node) (o:Sum (S_api_Node × S_api_Node) (Int × S_api_Node)),node_Each__subst_Node_1_e_l1 R_node_Each__subst_Node_1_e n v1_0 v37 v38 k v39 b4 b8 = some o → (Sum.elim (fun s=>To 61 F0 w0 [(4,.own 4 0),(8,.own 8 0)] [(4,25,qc12 s.1),(8,25,qc28 4483 s.2),(4483,25,[rc25 s.2.f_Kids])] (.exit 0) Q) (fun s=>To 61 F0 w0 [(4,.own 4 0),(5,vi s.1)] [(4,25,qc12 s.2)] .ret Q)) o → WL Tryz.prog 61 F0 w0 [(1,.fn 28 [.el [rs15 v1_0]]),(4,.own 4 0),(8,.own 8 0),(37,rs26 v37),(38,vi v38),(39,vi v39)] [(4,25,qc12 b4),(8,25,qc28 4483 b8),(4483,25,[rc25 b8.f_Kids])] (cI (cI (cB (cA (cB (cB (cB (cF Tryz.f27)))))))) Q:=by
 induction k with
 | zero=>intro v39 b4 b8 o h; cases h
 | succ k ih =>
  intro v39 b4 b8 o h hQ
  rw [node_Each__subst_Node_1_e_l1] at h
  refine WL.round (Wp.seq (rg [1,4,8,37,38,39,40] [4,8,4483] [(1,.fn 28 [.el [rs15 v1_0]]),(4,.own 4 0),(8,.own 8 0),(37,rs26 v37),(38,vi v38),(39,vi v39),(40,vb (decide (v39 < v38)))] [(4,25,qc12 b4),(8,25,qc28 4483 b8),(4483,25,[rc25 b8.f_Kids])] (To.thenN (Wp.seq (cn h (fun h=>?_) (fun h=>?_))))))
  ·refine Wp.skip (To.thenN (Wp.seq (Wp.block (Wp.seq ?_))))
   obtain ⟨hc5,h⟩:=chk_of h
   refine r0 [1,4,8,10,37,38,39] [4,8,10,4483] [(1,.fn 28 [.el [rs15 v1_0]]),(4,.own 4 0),(8,.own 8 0),(10,.own 10 0),(37,rs26 v37),(38,vi v38),(39,vi v39)] [(4,25,qc12 b4),(8,25,qc28 4483 b8),(10,25,[vi ((ex35 v37 v39).f_Kind),.str ((ex35 v37 v39).f_Text),ls ((ex35 v37 v39).f_Keys),tn10 ((ex35 v37 v39).f_Kids)]),(4483,25,[rc25 b8.f_Kids])] (AllP.cons hc5 AllP.nil) (To.thenN (Wp.seq ?_))
   obtain ⟨r3,hr3,h⟩:=bind_of h
   refine rr [] [(2,.tup [.agg (qc12 r3.1),vi r3.2])] [] [1,4,8,11,12,37,38,39] [4,8,11,4483] [(1,.fn 28 [.el [rs15 v1_0]]),(4,.own 4 0),(8,.own 8 0),(11,.own 11 0),(12,vi r3.2),(37,rs26 v37),(38,vi v38),(39,vi v39)] [(4,25,qc12 b4),(8,25,qc28 4483 b8),(11,25,qc12 r3.1),(4483,25,[rc25 b8.f_Kids])] [(true = true → CX Tryz.prog 27 [.agg [vi ((ex35 v37 v39).f_Kind),.str ((ex35 v37 v39).f_Text),ls ((ex35 v37 v39).f_Keys),tn10 ((ex35 v37 v39).f_Kids)],.fn 28 [.el [rs15 v1_0]]] (.tup [.agg (qc12 r3.1),vi r3.2]))] (AllP.cons (fun _=>cx (hR_node_Each__subst_Node_1_e (ex35 v37 v39) v1_0 _ hr3)) AllP.nil) (To.thenN (Wp.seq (Wp.seq (rg [1,4,8,11,12,37,38,39,50] [4,8,11,4483] [(1,.fn 28 [.el [rs15 v1_0]]),(4,.own 4 0),(8,.own 8 0),(11,.own 11 0),(12,vi r3.2),(37,rs26 v37),(38,vi v38),(39,vi v39),(50,vb (r3.2 != 0))] [(4,25,qc12 b4),(8,25,qc28 4483 b8),(11,25,qc12 r3.1),(4483,25,[rc25 b8.f_Kids])] (To.thenN (cn h (fun h=>?_) (fun h=>?_)))))))
   ·refine Wp.seq (rg [4,5] [4] [(4,.own 4 0),(5,vi r3.2)] [(4,25,[vi 0,.str [],.val (.slice none 0 0),.val (.slice none 0 0)])] (To.thenN (Wp.ret (To.thenR (To.blockR (To.thenR (To.thenR (To.weak (K':=[(4,.own 4 0),(5,vi r3.2)]) (L':=[(4,25,[vi 0,.str [],ls [],tn10 []])]) (.cons (.refl _) (.cons (.refl _) .nil)) (.cons (.cons (.refl _) (.cons (.refl _) (.cons (.zero _ _) (.cons (.zeroT _ _ _) .nil)))) .nil) ?_))))))))
    cases h
    exact hQ
   ·refine Wp.skip (To.thenN ?_)
    obtain ⟨hc4,h⟩:=chk_of h
    refine rr [] [(3,rs26 [r3.1]),(4,rs26 (b8.f_Kids ++ ([r3.1]:List (S_api_Node))))] [] [1,4,8,37,38,39] [4,8,57] [(1,.fn 28 [.el [rs15 v1_0]]),(4,.own 4 0),(8,.own 8 0),(37,rs26 v37),(38,vi v38),(39,vi v39)] [(4,25,qc12 b4),(8,25,qc28 57 b8),(57,25,[rc25 (b8.f_Kids ++ ([r3.1]:List (S_api_Node)))])] [(MkOb 4 (qc12 r3.1) 1 (rs26 [r3.1]) ∧ GoodR (rs26 [r3.1])),_,(AppOb zx9 E_api_Node b8.f_Kids (List.flatMap E_api_Node ([r3.1]:List (S_api_Node))) (List.length ([r3.1]:List (S_api_Node))) (rs26 (b8.f_Kids ++ ([r3.1]:List (S_api_Node)))) ∧ GoodR (rs26 (b8.f_Kids ++ ([r3.1]:List (S_api_Node)))))] (AllP.cons (mkOb (by kernel_rfl) rfl (by kernel_rfl) (good_E_api_Node _)) (AllP.cons hc4 (AllP.cons (appOb rfl rfl (good_E_api_Node _)) AllP.nil))) (To.blockN (To.thenN (rg [1,4,8,37,38,39] [4,8,57] [(1,.fn 28 [.el [rs15 v1_0]]),(4,.own 4 0),(8,.own 8 0),(37,rs26 v37),(38,vi v38),(39,vi (IntKind.wrap .i64 (v39 + 1)))] [(4,25,qc12 b4),(8,25,qc28 57 b8),(57,25,[rc25 (b8.f_Kids ++ ([r3.1]:List (S_api_Node)))])] (nt [1,4,8,37,38,39] [4,8,57] [(57,4483)] [1,4,8,37,38,39] [4,8,4483] [(1,.fn 28 [.el [rs15 v1_0]]),(4,.own 4 0),(8,.own 8 0),(37,rs26 v37),(38,vi v38),(39,vi (IntKind.wrap .i64 (v39 + 1)))] [(4,25,qc12 b4),(8,25,qc28 4483 b8),(4483,25,[rc25 (b8.f_Kids ++ ([r3.1]:List (S_api_Node)))])] (To.again ?_)))))
    exact ih (IntKind.wrap .i64 (v39 + 1)) b4 (S_api_Node.mk b8.f_Kind b8.f_Text b8.f_Keys (b8.f_Kids ++ ([r3.1]:List (S_api_Node)))) _ h hQ
  ·refine Wp.exit (To.thenX (To.thenX (kt [4,8] [4,8,4483] [(4,.own 4 0),(8,.own 8 0)] [(4,25,qc12 b4),(8,25,qc28 4483 b8),(4483,25,[rc25 b8.f_Kids])] ?_)))
   cases h
   exact hQ
def node_Each__subst_Node_1_e_b (R_node_Each__subst_Node_1_e:S_api_Node → (List (S_api_Var)) → Option (S_api_Node × Int)) (n:Nat) (a0:S_api_Node) (c0:List (S_api_Var)):Option (S_api_Node × Int) :=
 if (a0.f_Kind == 1) = true then ((subst_Node_1__e n a0.f_Text c0).bind fun r1 =>
 if (r1.2 != 0) = true then (some ((S_api_Node.mk 0 [] [] []),r1.2))
 else (lett (node_Text r1.1) fun r2 =>
 some (r2,0)))
 else ((node_Each__subst_Node_1_e_l1 R_node_Each__subst_Node_1_e n c0 a0.f_Kids (List.length a0.f_Kids:Int) n 0 (S_api_Node.mk 0 [] [] []) (S_api_Node.mk a0.f_Kind a0.f_Text a0.f_Keys [])).bind fun o3 =>
 (Sum.elim (fun o3=>some (o3.2,0)) (fun o3=>some (o3.2,o3.1))) o3)
abbrev rc29 (l:List (S_api_Node)):D:=.rowc true (α:=S_api_Node) zx9 E_api_Node l
abbrev qc30 (x:S_api_Node):List D:=[vi x.f_Kind,.str x.f_Text,ls x.f_Keys,.val (.slice none 0 0)]
abbrev qc31 (x:S_api_Node):List D:=[vi x.f_Kind,.str x.f_Text,ls x.f_Keys,rs26 x.f_Kids]
theorem ok_node_Each__subst_Node_1_e_b (R_node_Each__subst_Node_1_e:S_api_Node → (List (S_api_Var)) → Option (S_api_Node × Int)) (hR_node_Each__subst_Node_1_e:hR27 R_node_Each__subst_Node_1_e) (n:Nat) (a0:S_api_Node) (c0:List (S_api_Var)) (r:S_api_Node × Int) (h:node_Each__subst_Node_1_e_b R_node_Each__subst_Node_1_e n a0 c0 = some r):CallsX Tryz.prog 27 [.agg (qc12 a0),.fn 28 [.el [rs15 c0]]] (.tup [.agg (qc12 r.1),vi r.2]):=by
 unfold node_Each__subst_Node_1_e_b at h
 refine xo Tryz.f27 rfl fun F0 w0 _=>?_
 refine Wp.seq (rg [1,2,4] [2,4] [(1,.fn 28 [.el [rs15 c0]]),(2,.own 2 0),(4,.own 4 0)] [(2,25,qc12 a0),(4,25,[vi 0,.str [],.val (.slice none 0 0),.val (.slice none 0 0)])] (To.thenN (Wp.seq (Wp.seq (rg [1,2,4,15] [2,4] [(1,.fn 28 [.el [rs15 c0]]),(2,.own 2 0),(4,.own 4 0),(15,vb (a0.f_Kind == 1))] [(2,25,qc12 a0),(4,25,[vi 0,.str [],.val (.slice none 0 0),.val (.slice none 0 0)])] (To.thenN (cn h (fun h=>?_) (fun h=>?_))))))))
 ·refine Wp.seq ?_
  obtain ⟨r1,hr1,h⟩:=bind_of h
  refine rc [] 3 [4,6,7] [4] [(4,.own 4 0),(6,.str r1.1),(7,vi r1.2)] [(4,25,[vi 0,.str [],.val (.slice none 0 0),.val (.slice none 0 0)])] (ok_subst_Node_1__e n a0.f_Text c0 _ hr1) (To.thenN (Wp.seq (Wp.seq (rg [4,6,7,24] [4] [(4,.own 4 0),(6,.str r1.1),(7,vi r1.2),(24,vb (r1.2 != 0))] [(4,25,[vi 0,.str [],.val (.slice none 0 0),.val (.slice none 0 0)])] (To.thenN (cn h (fun h=>?_) (fun h=>?_)))))))
  ·refine Wp.seq (rg [4,5] [4] [(4,.own 4 0),(5,vi r1.2)] [(4,25,[vi 0,.str [],.val (.slice none 0 0),.val (.slice none 0 0)])] (To.thenN (Wp.ret (To.thenR (To.thenR (To.weak (K':=[(4,.own 4 0),(5,vi r1.2)]) (L':=[(4,25,[vi 0,.str [],ls [],tn10 []])]) (.cons (.refl _) (.cons (.refl _) .nil)) (.cons (.cons (.refl _) (.cons (.refl _) (.cons (.zero _ _) (.cons (.zeroT _ _ _) .nil)))) .nil) ?_))))))
   cases h
   exact To.done hΓ (by kernel_rfl)
  ·refine Wp.skip (To.thenN (Wp.seq ?_))
   obtain ⟨r2,hr2,h⟩:=lett_of h
   refine rc [] 1 [4,5] [4] [(4,.own 4 0),(5,vi 0)] [(4,25,qc12 r2)] (ok_node_Text r1.1 _ hr2) (To.thenN (Wp.ret (To.thenR ?_)))
   cases h
   exact To.done hΓ (by kernel_rfl)
 ·refine Wp.skip (To.thenN (Wp.seq (rg [1,2,4,8] [2,4,8] [(1,.fn 28 [.el [rs15 c0]]),(2,.own 2 0),(4,.own 4 0),(8,.own 8 0)] [(2,25,qc12 a0),(4,25,[vi 0,.str [],.val (.slice none 0 0),.val (.slice none 0 0)]),(8,25,qc30 a0)] (To.thenN (Wp.seq (Wp.seq (rg [1,4,8,37,38,39] [4,8] [(1,.fn 28 [.el [rs15 c0]]),(4,.own 4 0),(8,.own 8 0),(37,tn10 a0.f_Kids),(38,vi (List.length a0.f_Kids:Int)),(39,vi 0)] [(4,25,[vi 0,.str [],.val (.slice none 0 0),.val (.slice none 0 0)]),(8,25,qc30 a0)] (To.thenN (Wp.block ?_)))))))))
  obtain ⟨o3,ho3,h⟩:=bind_of h
  refine kw [1,4,8,37,38,39] [4,8] [(1,.fn 28 [.el [rs15 c0]]),(4,.own 4 0),(8,.own 8 0),(37,tn10 a0.f_Kids),(38,vi (List.length a0.f_Kids:Int)),(39,vi 0)] [(4,25,[vi 0,.str [],.val (.slice none 0 0),.val (.slice none 0 0)]),(8,25,qc30 a0)] (Wp.pre (St.vacantB 8 3 4483 25 (good_E_api_Node _) (by decide) (by kernel_rfl) (L':=[(4,25,[vi 0,.str [],.val (.slice none 0 0),.val (.slice none 0 0)]),(8,25,qc28 4483 a0)]) (by kernel_rfl)) (kw [1,4,8,37,38,39] [4,8,4483] [(1,.fn 28 [.el [rs15 c0]]),(4,.own 4 0),(8,.own 8 0),(37,tn10 a0.f_Kids),(38,vi (List.length a0.f_Kids:Int)),(39,vi 0)] [(4,25,[vi 0,.str [],.val (.slice none 0 0),.val (.slice none 0 0)]),(8,25,qc28 4483 a0),(4483,25,[rc25 []])] (Wp.weak (K':=[(1,.fn 28 [.el [rs15 c0]]),(4,.own 4 0),(8,.own 8 0),(37,rs26 a0.f_Kids),(38,vi (List.length a0.f_Kids:Int)),(39,vi 0)]) (L':=[(4,25,[vi 0,.str [],ls [],tn10 []]),(8,25,qc28 4483 a0),(4483,25,[rc25 []])]) (.cons (.refl _) (.cons (.refl _) (.cons (.refl _) (.cons (.opn _ _ _ _) (.cons (.refl _) (.cons (.refl _) .nil)))))) (.cons (.cons (.refl _) (.cons (.refl _) (.cons (.zero _ _) (.cons (.zeroT _ _ _) .nil)))) (.cons (.cons (.refl _) (.cons (.refl _) (.cons (.refl _) (.cons (.refl _) .nil)))) (.cons (.cons (.refl _) .nil) .nil))) (Wp.loopL (ok_node_Each__subst_Node_1_e_l1 R_node_Each__subst_Node_1_e hR_node_Each__subst_Node_1_e n c0 a0.f_Kids (List.length a0.f_Kids:Int) n 0 zx9 (S_api_Node.mk a0.f_Kind a0.f_Text a0.f_Keys []) o3 ho3 ?_)))))
  rcases o3 with o3 | o3
  ·replace h:=sum_l h
   refine To.blockX (To.thenN (Wp.seq (rg [4,5] [4,4483] [(4,.own 4 0),(5,vi 0)] [(4,25,qc28 4483 o3.2),(4483,25,[rc25 o3.2.f_Kids])] (To.thenN (Wp.ret (To.pre (St.settle (ks:=[4483]) (kk:=[4,5]) (kl:=[4,4483]) (K':=[(4,.own 4 0),(5,vi 0)]) (L':=[(4,25,qc28 4483 o3.2),(4483,25,[rc29 o3.2.f_Kids])]) (by kernel_rfl)) (To.pre (St.sealB [4] (L':=[(4,25,qc31 o3.2),(4483,25,[rc29 o3.2.f_Kids])]) (by kernel_rfl)) (To.weak (K':=[(4,.own 4 0),(5,vi 0)]) (L':=[(4,25,qc12 o3.2),(4483,25,[rc29 o3.2.f_Kids])]) (.cons (.refl _) (.cons (.refl _) .nil)) (.cons (.cons (.refl _) (.cons (.refl _) (.cons (.refl _) (.cons (.close _ _ _ _) .nil)))) (.cons (.cons (.refl _) .nil) .nil)) ?_))))))))
   cases h
   exact To.done hΓ (by kernel_rfl)
  ·replace h:=sum_r h
   refine To.blockR (To.thenR ?_)
   cases h
   exact To.done hΓ (by kernel_rfl)
def node_Each__subst_Node_1_e:Nat → S_api_Node → (List (S_api_Var)) → Option (S_api_Node × Int)
 | 0=>fun _ _=>none
 | n + 1=>node_Each__subst_Node_1_e_b (node_Each__subst_Node_1_e n) n
theorem ok_node_Each__subst_Node_1_e (n:Nat):∀ (a0:S_api_Node) (c0:List (S_api_Var)) (r:S_api_Node × Int),node_Each__subst_Node_1_e n a0 c0 = some r → CallsX Tryz.prog 27 [.agg (qc12 a0),.fn 28 [.el [rs15 c0]]] (.tup [.agg (qc12 r.1),vi r.2]):=by
 induction n with
 | zero=>intro a0 c0 r h; cases h
 | succ n ih=>exact fun a0 c0 r h=>ok_node_Each__subst_Node_1_e_b (node_Each__subst_Node_1_e n) ih n a0 c0 r h
def subst_Node (n:Nat) (a0:S_api_Node) (a1:List (S_api_Var)):Option (S_api_Node × Int) :=
 (node_Each__subst_Node_1_e n a0 a1).bind fun r1 =>
 some (r1.1,r1.2)
theorem ok_subst_Node (n:Nat) (a0:S_api_Node) (a1:List (S_api_Var)) (r:S_api_Node × Int) (h:subst_Node n a0 a1 = some r):CallsX Tryz.prog 9 [.agg (qc12 a0),rs15 a1] (.tup [.agg (qc12 r.1),vi r.2]):=by
 unfold subst_Node at h
 refine xo Tryz.f9 rfl fun F0 w0 _=>?_
 refine Wp.seq (rg [2,3,4] [2,3,4] [(2,.own 2 0),(3,.own 3 0),(4,.own 4 0)] [(2,25,qc12 a0),(3,26,[rs15 a1]),(4,25,[vi 0,.str [],.val (.slice none 0 0),.val (.slice none 0 0)])] (To.thenN (Wp.seq ?_)))
 obtain ⟨r1,hr1,h⟩:=bind_of h
 refine rc [(1,[3])] 2 [4,5] [4] [(4,.own 4 0),(5,vi r1.2)] [(4,25,qc12 r1.1)] (ok_node_Each__subst_Node_1_e n a0 a1 _ hr1) (To.thenN (Wp.ret ?_))
 cases h
 exact To.done hΓ (by kernel_rfl)
structure S_ref14_Said where
 f_Text:List UInt8
 f_Key:List UInt8
 f_Why:List UInt8
 f_E:Int
structure S_ref13_Part where
 f_Name:List UInt8
 f_Text:List UInt8
 f_Op:Int
 f_Sub:List (S_ref13_Part)
def pre_S_ref13_Part:S_ref13_Part → List D:=fun x=>[.str x.f_Name,.str x.f_Text,.val (.int .i64 x.f_Op)]
def kids_S_ref13_Part:S_ref13_Part → List (S_ref13_Part):=fun x=>x.f_Sub
def tr_S_ref13_Part:S_ref13_Part → List D:=treeEnc (S_ref13_Part.mk [] [] 0 []) pre_S_ref13_Part kids_S_ref13_Part
def E_ref13_Part:S_ref13_Part → List D:=tr_S_ref13_Part
theorem good_E_ref13_Part (l:List (S_ref13_Part)):GoodR (.recs (S_ref13_Part.mk [] [] 0 []) E_ref13_Part l):=⟨Nat.le_of_ble_eq_true (by kernel_rfl),fun _=>⟨rfl,rfl⟩⟩
def ref13_words_o__r0 (n:Nat) (a1:Int) (h0:List (S_ref13_Part)):Option ((List (S_ref13_Part)) × Unit) :=
 if ((!((decide ((List.length h0:Int) > 0)) == true) || decide (0 ≤ (IntKind.wrap .i64 ((List.length h0:Int) - 1)) ∧ (IntKind.wrap .i64 ((List.length h0:Int) - 1)) < (List.length h0:Int)))) = true then (lett ((bif (decide ((List.length h0:Int) > 0)) then ((((h0)[Int.toNat (IntKind.wrap .i64 ((List.length h0:Int) - 1))]?.getD (S_ref13_Part.mk [] [] 0 [])).f_Op) == 0) else false):Bool) fun x1 =>
 if x1 = true then (if (decide (0 ≤ (IntKind.wrap .i64 ((List.length h0:Int) - 1)) ∧ (IntKind.wrap .i64 ((List.length h0:Int) - 1)) < (List.length h0:Int))) = true then (if (decide (0 ≤ a1 ∧ a1 < 256)) = true then (if (decide (((List.length (((h0)[Int.toNat (IntKind.wrap .i64 ((List.length h0:Int) - 1))]?.getD (S_ref13_Part.mk [] [] 0 [])).f_Text) + List.length ([(UInt8.ofNat (Int.toNat a1))]:List UInt8):Nat):Int) ≤ 9223372036854775807)) = true then (lett (((((h0)[Int.toNat (IntKind.wrap .i64 ((List.length h0:Int) - 1))]?.getD (S_ref13_Part.mk [] [] 0 [])).f_Text) ++ [(UInt8.ofNat (Int.toNat a1))]):List UInt8) fun x3 =>
 if (decide (0 ≤ (IntKind.wrap .i64 ((List.length h0:Int) - 1)) ∧ (IntKind.wrap .i64 ((List.length h0:Int) - 1)) ≤ (List.length h0:Int))) = true then (if (decide ((List.length ([]:List (S_ref13_Part)) + List.length (List.take (Int.toNat (IntKind.wrap .i64 ((List.length h0:Int) - 1))) h0)) * (64 + 1) ≤ limit)) = true then (if (decide ((List.length (([]:List (S_ref13_Part)) ++ (List.take (Int.toNat (IntKind.wrap .i64 ((List.length h0:Int) - 1))) h0)) + List.length ([(S_ref13_Part.mk [] x3 0 [])]:List (S_ref13_Part))) * (64 + 1) ≤ limit)) = true then (lett (((([]:List (S_ref13_Part)) ++ (List.take (Int.toNat (IntKind.wrap .i64 ((List.length h0:Int) - 1))) h0)) ++ ([(S_ref13_Part.mk [] x3 0 [])]:List (S_ref13_Part))):List (S_ref13_Part)) fun x4 =>
 some (x4,())) else none) else none) else none) else none) else none) else none)
 else (if (decide (0 ≤ a1 ∧ a1 < 256)) = true then (if (decide ((List.length h0 + List.length ([(S_ref13_Part.mk [] [(UInt8.ofNat (Int.toNat a1))] 0 [])]:List (S_ref13_Part))) * (64 + 1) ≤ limit)) = true then (some ((h0 ++ ([(S_ref13_Part.mk [] [(UInt8.ofNat (Int.toNat a1))] 0 [])]:List (S_ref13_Part))),())) else none) else none)) else none
abbrev zx32:S_ref13_Part:=S_ref13_Part.mk [] [] 0 []
abbrev rc33 (l:List (S_ref13_Part)):D:=.rowc false (α:=S_ref13_Part) zx32 E_ref13_Part l
abbrev rs34 (l:List (S_ref13_Part)):D:=.recs (α:=S_ref13_Part) zx32 E_ref13_Part l
abbrev rc35 (l:List (S_ref13_Part)):D:=.rowc true (α:=S_ref13_Part) zx32 E_ref13_Part l
abbrev tn36 (l:List (S_ref13_Part)):D:=.tree (α:=S_ref13_Part) zx32 pre_S_ref13_Part kids_S_ref13_Part l
abbrev ex36 (x0:Int):=([(S_ref13_Part.mk [] [(UInt8.ofNat (Int.toNat x0))] 0 [])]:List (S_ref13_Part))
theorem ok_ref13_words_o__r0 (n:Nat) (a1:Int) (h0:List (S_ref13_Part)) (r:(List (S_ref13_Part)) × Unit) (h:ref13_words_o__r0 n a1 h0 = some r):CallsB Tryz.prog 78 [.row 1000000,.val (.int .u8 a1)] [(1000000,117,[rc33 h0])] (.row 1) [(1,117,[rc33 r.1])]:=by
 unfold ref13_words_o__r0 at h
 refine bo Tryz.f78 rfl fun F0 w0=>?_
 refine Wp.seq (rg [0,1] [1000000] [(0,.row 1000000),(1,.val (.int .u8 a1))] [(1000000,117,[rc33 h0])] (To.thenN (Wp.seq (rg [0,1,5] [1000000] [(0,.row 1000000),(1,.val (.int .u8 a1)),(5,vi (List.length h0:Int))] [(1000000,117,[rc33 h0])] (To.thenN (Wp.seq (Wp.seq ?_)))))))
 obtain ⟨hc12,h⟩:=chk_of h
 obtain ⟨x1,hx1,h⟩:=lett_of h
 refine r0 [0,1,5,20] [1000000] [(0,.row 1000000),(1,.val (.int .u8 a1)),(5,vi (List.length h0:Int)),(20,vb (bif (decide ((List.length h0:Int) > 0)) then ((((h0)[Int.toNat (IntKind.wrap .i64 ((List.length h0:Int) - 1))]?.getD zx32).f_Op) == 0) else false))] [(1000000,117,[rc33 h0])] (AllP.cons hc12 (AllP.cons hc12 AllP.nil)) (To.eq (K':=[(0,.row 1000000),(1,.val (.int .u8 a1)),(5,vi (List.length h0:Int)),(20,vb x1)]) (L':=[(1000000,117,[rc33 h0])]) (by cases hx1; rfl) (by cases hx1; rfl) (To.thenN (cn h (fun h=>?_) (fun h=>?_))))
 ·refine Wp.seq ?_
  obtain ⟨hc8,h⟩:=chk_of h
  obtain ⟨u2,h⟩:=chk_of h
  obtain ⟨hc9,h⟩:=chk_of h
  obtain ⟨x3,hx3,h⟩:=lett_of h
  refine Wp.regionD hm hΓ [(7,rs19 [(UInt8.ofNat (Int.toNat a1))]),(8,.str [(UInt8.ofNat (Int.toNat a1))])] [0,5,6] [1000000] (K':=[(0,.row 1000000),(5,vi (List.length h0:Int)),(6,.str ((((h0)[Int.toNat (IntKind.wrap .i64 ((List.length h0:Int) - 1))]?.getD zx32).f_Text) ++ [(UInt8.ofNat (Int.toNat a1))]))]) (L':=[(1000000,117,[rc33 h0])]) (ob:=[(decide (0 ≤ (IntKind.wrap .i64 ((List.length h0:Int) - 1)) ∧ (IntKind.wrap .i64 ((List.length h0:Int) - 1)) < (List.length h0:Int))) = true,(decide (0 ≤ (IntKind.wrap .i64 ((List.length h0:Int) - 1)) ∧ (IntKind.wrap .i64 ((List.length h0:Int) - 1)) < (List.length h0:Int))) = true,(true = true → MkOb 1 [.val (.int .u8 a1)] 1 (rs19 [(UInt8.ofNat (Int.toNat a1))]) ∧ GoodR (rs19 [(UInt8.ofNat (Int.toNat a1))])),(true = true → StrOb (List.flatMap e8 (ex27 a1)) (.str [(UInt8.ofNat (Int.toNat a1))])),(decide (((List.length (((h0)[Int.toNat (IntKind.wrap .i64 ((List.length h0:Int) - 1))]?.getD zx32).f_Text) + List.length ([(UInt8.ofNat (Int.toNat a1))]:List UInt8):Nat):Int) ≤ 9223372036854775807)) = true]) (by kernel_rfl) (AllP.cons hc8 (AllP.cons hc8 (AllP.cons (fun _=>mkOb (All8.cells (ns:=[a1]) (.cons (u8_of u2) .nil)) rfl rfl (good8 _)) (AllP.cons (fun _=>strOb (flat8 _)) (AllP.cons hc9 AllP.nil))))) (To.eq (K':=[(0,.row 1000000),(5,vi (List.length h0:Int)),(6,.str x3)]) (L':=[(1000000,117,[rc33 h0])]) (by cases hx3; rfl) (by cases hx3; rfl) (To.thenN (Wp.seq ?_)))
  obtain ⟨hc6,h⟩:=chk_of h
  obtain ⟨hc7,h⟩:=chk_of h
  refine rr [(4,[1000000])] [(0,rs34 []),(5,rs34 (([]:List (S_ref13_Part)) ++ (List.take (Int.toNat (IntKind.wrap .i64 ((List.length h0:Int) - 1))) h0)))] [] [6,7] [36,1000000] [(6,.str x3),(7,.row 36)] [(36,117,[rc33 (([]:List (S_ref13_Part)) ++ (List.take (Int.toNat (IntKind.wrap .i64 ((List.length h0:Int) - 1))) h0))]),(1000000,117,[rc35 h0])] [(MkOb 4 [] 0 (rs34 []) ∧ GoodR (rs34 [])),_,_,(AppOb zx32 E_ref13_Part ([]:List (S_ref13_Part)) (List.flatMap E_ref13_Part (List.take (Int.toNat (IntKind.wrap .i64 ((List.length h0:Int) - 1))) h0)) (List.length (List.take (Int.toNat (IntKind.wrap .i64 ((List.length h0:Int) - 1))) h0)) (rs34 (([]:List (S_ref13_Part)) ++ (List.take (Int.toNat (IntKind.wrap .i64 ((List.length h0:Int) - 1))) h0))) ∧ GoodR (rs34 (([]:List (S_ref13_Part)) ++ (List.take (Int.toNat (IntKind.wrap .i64 ((List.length h0:Int) - 1))) h0))))] (AllP.cons (mkOb (by kernel_rfl) rfl (by kernel_rfl) (good_E_ref13_Part _)) (AllP.cons hc6 (AllP.cons hc7 (AllP.cons (appOb rfl rfl (good_E_ref13_Part _)) AllP.nil)))) (To.thenN (Wp.seq ?_))
  obtain ⟨hc5,h⟩:=chk_of h
  obtain ⟨x4,hx4,h⟩:=lett_of h
  refine rr [] [(3,rs34 ([(S_ref13_Part.mk [] x3 0 [])])),(4,rs34 ((([]:List (S_ref13_Part)) ++ (List.take (Int.toNat (IntKind.wrap .i64 ((List.length h0:Int) - 1))) h0)) ++ ([(S_ref13_Part.mk [] x3 0 [])]:List (S_ref13_Part))))] [] [4] [41,1000000] [(4,.row 41)] [(41,117,[rc33 ((([]:List (S_ref13_Part)) ++ (List.take (Int.toNat (IntKind.wrap .i64 ((List.length h0:Int) - 1))) h0)) ++ ([(S_ref13_Part.mk [] x3 0 [])]:List (S_ref13_Part)))]),(1000000,117,[rc35 h0])] [(MkOb 4 [.str [],.str x3,vi 0,.val (.slice none 0 0)] 1 (rs34 ([(S_ref13_Part.mk [] x3 0 [])])) ∧ GoodR (rs34 ([(S_ref13_Part.mk [] x3 0 [])]))),_,(AppOb zx32 E_ref13_Part (([]:List (S_ref13_Part)) ++ (List.take (Int.toNat (IntKind.wrap .i64 ((List.length h0:Int) - 1))) h0)) (List.flatMap E_ref13_Part ([(S_ref13_Part.mk [] x3 0 [])]:List (S_ref13_Part))) (List.length ([(S_ref13_Part.mk [] x3 0 [])]:List (S_ref13_Part))) (rs34 ((([]:List (S_ref13_Part)) ++ (List.take (Int.toNat (IntKind.wrap .i64 ((List.length h0:Int) - 1))) h0)) ++ ([(S_ref13_Part.mk [] x3 0 [])]:List (S_ref13_Part)))) ∧ GoodR (rs34 ((([]:List (S_ref13_Part)) ++ (List.take (Int.toNat (IntKind.wrap .i64 ((List.length h0:Int) - 1))) h0)) ++ ([(S_ref13_Part.mk [] x3 0 [])]:List (S_ref13_Part)))))] (AllP.cons (mkObW (weaks_eq (ds:=[.str [],.str x3,vi 0,.val (.slice none 0 0)]) (es:=[.str [],.str x3,vi 0,tn36 []]) (by kernel_rfl) (.cons (.refl _) (.cons (.refl _) (.cons (.refl _) (.cons (.zeroT _ _ _) .nil)))) (by kernel_rfl)) rfl (by kernel_rfl) (good_E_ref13_Part _)) (AllP.cons hc5 (AllP.cons (appOb rfl rfl (good_E_ref13_Part _)) AllP.nil))) (To.eq (K':=[(4,.row 41)]) (L':=[(41,117,[rc33 x4]),(1000000,117,[rc35 h0])]) (by cases hx4; rfl) (by cases hx4; rfl) (To.thenN (Wp.ret (To.thenR (nt [4] [41,1000000] [(41,1004)] [4] [1004,1000000] [(4,.row 1004)] [(1004,117,[rc33 x4]),(1000000,117,[rc35 h0])] (To.pre (St.rename 1004 1 (by decide) (K':=[(4,.row 1)]) (L':=[(1,117,[rc33 x4]),(1000000,117,[rc35 h0])]) (by kernel_rfl) (by kernel_rfl) (by kernel_rfl)) ?_))))))
  cases h
  exact To.doneB hΓ [1] (by kernel_rfl) (by kernel_rfl)
 ·refine Wp.skip (To.thenN (Wp.seq ?_))
  obtain ⟨u10,h⟩:=chk_of h
  obtain ⟨hc11,h⟩:=chk_of h
  refine rr [] [(ex30 a1),(3,.str [(UInt8.ofNat (Int.toNat a1))]),(5,rs34 ([(S_ref13_Part.mk [] [(UInt8.ofNat (Int.toNat a1))] 0 [])])),(6,rs34 (h0 ++ (ex36 a1)))] [] [4] [48] [(4,.row 48)] [(48,117,[rc33 (h0 ++ (ex36 a1))])] [(ex28 a1),(true = true → StrOb (List.flatMap e8 (ex27 a1)) (.str [(UInt8.ofNat (Int.toNat a1))])),(MkOb 4 [.str [],.str [(UInt8.ofNat (Int.toNat a1))],vi 0,.val (.slice none 0 0)] 1 (rs34 ([(S_ref13_Part.mk [] [(UInt8.ofNat (Int.toNat a1))] 0 [])])) ∧ GoodR (rs34 ([(S_ref13_Part.mk [] [(UInt8.ofNat (Int.toNat a1))] 0 [])]))),_,(AppOb zx32 E_ref13_Part h0 (List.flatMap E_ref13_Part (ex36 a1)) (List.length (ex36 a1)) (rs34 (h0 ++ (ex36 a1))) ∧ GoodR (rs34 (h0 ++ (ex36 a1))))] (AllP.cons (mkOb (All8.cells (ns:=[a1]) (.cons (u8_of u10) .nil)) rfl rfl (good8 _)) (AllP.cons (fun _=>strOb (flat8 _)) (AllP.cons (mkObW (weaks_eq (ds:=[.str [],.str [(UInt8.ofNat (Int.toNat a1))],vi 0,.val (.slice none 0 0)]) (es:=[.str [],.str [(UInt8.ofNat (Int.toNat a1))],vi 0,tn36 []]) (by kernel_rfl) (.cons (.refl _) (.cons (.refl _) (.cons (.refl _) (.cons (.zeroT _ _ _) .nil)))) (by kernel_rfl)) rfl (by kernel_rfl) (good_E_ref13_Part _)) (AllP.cons hc11 (AllP.cons (appOb rfl rfl (good_E_ref13_Part _)) AllP.nil))))) (To.thenN (Wp.ret (nt [4] [48] [(48,1004)] [4] [1004] [(4,.row 1004)] [(1004,117,[rc33 (h0 ++ (ex36 a1))])] (To.pre (St.rename 1004 1 (by decide) (K':=[(4,.row 1)]) (L':=[(1,117,[rc33 (h0 ++ (ex36 a1))])]) (by kernel_rfl) (by kernel_rfl) (by kernel_rfl)) ?_))))
  cases h
  exact To.doneB hΓ [1] (by kernel_rfl) (by kernel_rfl)
def ref13_letter (a0:Int):Bool :=
 (bif (decide ((ref02_Kind a0) ≥ 1)) then (decide ((ref02_Kind a0) ≤ 4)) else false)
theorem ok_ref13_letter (a0:Int) (r:Bool) (h:ref13_letter a0 = r):CallsX Tryz.prog 109 [.val (.int .u8 a0)] (vb r):=by
 unfold ref13_letter at h
 refine xo Tryz.f109 rfl fun F0 w0 _=>?_
 refine Wp.seq (rg [0] [] [(0,.val (.int .u8 a0))] [] (To.thenN (Wp.seq (rc [] 1 [3] [] [(3,vi (ref02_Kind a0))] [] (ok_ref02_Kind a0 _ rfl) (To.thenN (Wp.seq (rg [2] [] [(2,vb (bif (decide ((ref02_Kind a0) ≥ 1)) then (decide ((ref02_Kind a0) ≤ 4)) else false))] [] (To.thenN (Wp.ret ?_)))))))))
 cases h
 exact To.done hΓ (by kernel_rfl)
def ref13_found_l1 (n:Nat) (v0:List UInt8):Nat → Int → Option (Int)
 | 0,_=>none
 | k + 1,v1=>if ((!((decide (v1 < (List.length v0:Int))) == true) || decide (0 ≤ v1 ∧ v1 < (List.length v0:Int)))) = true then (if (bif (decide (v1 < (List.length v0:Int))) then (ref13_letter (((v0)[Int.toNat v1]?.getD 0).toNat:Int)) else false) = true then (ref13_found_l1 n v0 k (IntKind.wrap .i64 (v1 + 1)))
 else some v1) else none
abbrev ex37 (x0:Int):Nat × D:=(1,vi (IntKind.wrap .i64 (x0 + 1)))
abbrev ex38 (x0:Int) (x1:List UInt8):=(0 ≤ x0 ∧ x0 < (List.length x1:Int))
theorem ok_ref13_found_l1 (n:Nat) (v0:List UInt8) {F0:Fz} {w0:Pt Tryz.prog} {Q:Exit → Act → World → Prop} (k:Nat):∀ (v1:Int) (o:Int),ref13_found_l1 n v0 k v1 = some o → To 18 F0 w0 [(1,vi o)] [] (.exit 0) Q → WL Tryz.prog 18 F0 w0 [(0,.str v0),(1,vi v1)] [] (cI (cI (cA (cB (cF Tryz.f79))))) Q:=by
 induction k with
 | zero=>intro v1 o h; cases h
 | succ k ih =>
  intro v1 o h hQ
  rw [ref13_found_l1] at h
  refine WL.round (Wp.seq (Wp.seq ?_))
  obtain ⟨hc1,h⟩:=chk_of h
  refine rr [] [(8,vb (ref13_letter (ex18 v0 v1)))] [] [0,1,14] [] [(0,.str v0),(1,vi v1),(14,vb (bif (ex19 v1 v0) then (ref13_letter (ex18 v0 v1)) else false))] [] [_,(((ex19 v1 v0) == true) = true → CX Tryz.prog 109 [.val (.int .u8 (ex18 v0 v1))] (vb (ref13_letter (ex18 v0 v1))))] (AllP.cons hc1 (AllP.cons (fun _=>cx (ok_ref13_letter (ex18 v0 v1) _ rfl)) AllP.nil)) (To.thenN (cn h (fun h=>?_) (fun h=>?_)))
  ·refine Wp.skip (To.thenN (Wp.block (rg [0,1] [] [(0,.str v0),(ex37 v1)] [] (To.blockN (To.again ?_)))))
   exact ih (IntKind.wrap .i64 (v1 + 1)) _ h hQ
  ·refine Wp.exit (To.thenX (To.thenX (kt [1] [] [(1,vi v1)] [] ?_)))
   cases h
   exact hQ
def ref13_found (n:Nat) (a0:List UInt8) (a1:Int):Option (Int) :=
 (ref13_found_l1 n a0 n a1).bind fun o1 =>
 some o1
theorem ok_ref13_found (n:Nat) (a0:List UInt8) (a1:Int) (r:Int) (h:ref13_found n a0 a1 = some r):CallsX Tryz.prog 79 [.str a0,vi a1] (vi r):=by
 unfold ref13_found at h
 refine xo Tryz.f79 rfl fun F0 w0 _=>?_
 refine Wp.seq (rg [0,1] [] [(0,.str a0),(1,vi a1)] [] (To.thenN (Wp.seq (Wp.block ?_))))
 obtain ⟨o1,ho1,h⟩:=bind_of h
 refine kw [0,1] [] [(0,.str a0),(1,vi a1)] [] (Wp.loopL (ok_ref13_found_l1 n a0 n a1 o1 ho1 (To.blockX (To.thenN (Wp.seq (rg [4] [] [(4,vi o1)] [] (To.thenN (Wp.ret ?_))))))))
 cases h
 exact To.done hΓ (by kernel_rfl)
def ref13_op_j1 (n:Nat) (v0:List UInt8) (v1:Int) (v16:Bool):Option (Sum (Unit) (Int × Int)) :=
 if v16 = true then (if (decide (0 ≤ (IntKind.wrap .i64 (v1 + 1)) ∧ (IntKind.wrap .i64 (v1 + 1)) < (List.length v0:Int))) = true then (if ((((v0)[Int.toNat (IntKind.wrap .i64 (v1 + 1))]?.getD 0).toNat:Int) == 45) = true then (some (.inr (2,2)))
 else (if (decide (0 ≤ (IntKind.wrap .i64 (v1 + 1)) ∧ (IntKind.wrap .i64 (v1 + 1)) < (List.length v0:Int))) = true then (if ((((v0)[Int.toNat (IntKind.wrap .i64 (v1 + 1))]?.getD 0).toNat:Int) == 63) = true then (some (.inr (4,2)))
 else (if (decide (0 ≤ (IntKind.wrap .i64 (v1 + 1)) ∧ (IntKind.wrap .i64 (v1 + 1)) < (List.length v0:Int))) = true then (if ((((v0)[Int.toNat (IntKind.wrap .i64 (v1 + 1))]?.getD 0).toNat:Int) == 43) = true then (some (.inr (6,2)))
 else (some (.inl ()))) else none)) else none)) else none)
 else (some (.inl ()))
abbrev ex39 (x0:List UInt8) (x1:Int):=(((x0)[Int.toNat (IntKind.wrap .i64 (x1 + 1))]?.getD 0).toNat:Int)
abbrev ex40 (x0:Int) (x1:List UInt8):=(0 ≤ (IntKind.wrap .i64 (x0 + 1)) ∧ (IntKind.wrap .i64 (x0 + 1)) < (List.length x1:Int))
theorem ok_ref13_op_j1 (n:Nat) (v0:List UInt8) (v1:Int) (v16:Bool) (o:Sum (Unit) (Int × Int)) (h:ref13_op_j1 n v0 v1 v16 = some o) {F0:Fz} {w0:Pt Tryz.prog} {Q:Exit → Act → World → Prop} (hQ:(Sum.elim (fun s=>To 48 F0 w0 [(0,.str v0),(1,vi v1)] [] .normal Q) (fun s=>To 48 F0 w0 [(4,vi s.1),(5,vi s.2)] [] .ret Q)) o):Wp Tryz.prog 48 F0 w0 [(0,.str v0),(1,vi v1),(16,vb v16)] [] (cB (cA (cB (cF Tryz.f80)))) Q:=by
 unfold ref13_op_j1 at h
 refine cn h (fun h=>?_) (fun h=>?_)
 ·refine Wp.seq (Wp.seq ?_)
  obtain ⟨hc4,h⟩:=chk_of h
  refine r0 [0,1,21] [] [(0,.str v0),(1,vi v1),(21,vb ((ex39 v0 v1) == 45))] [] (AllP.cons hc4 AllP.nil) (To.thenN (cn h (fun h=>?_) (fun h=>?_)))
  ·refine Wp.seq (rg [4,5] [] [(4,vi 2),(5,vi 2)] [] (To.thenN (Wp.ret (To.thenR ?_))))
   cases h
   exact hQ
  ·refine Wp.skip (To.thenN (Wp.seq (Wp.seq ?_)))
   obtain ⟨hc3,h⟩:=chk_of h
   refine r0 [0,1,26] [] [(0,.str v0),(1,vi v1),(26,vb ((ex39 v0 v1) == 63))] [] (AllP.cons hc3 AllP.nil) (To.thenN (cn h (fun h=>?_) (fun h=>?_)))
   ·refine Wp.seq (rg [4,5] [] [(4,vi 4),(5,vi 2)] [] (To.thenN (Wp.ret (To.thenR ?_))))
    cases h
    exact hQ
   ·refine Wp.skip (To.thenN (Wp.seq ?_))
    obtain ⟨hc2,h⟩:=chk_of h
    refine r0 [0,1,31] [] [(0,.str v0),(1,vi v1),(31,vb ((ex39 v0 v1) == 43))] [] (AllP.cons hc2 AllP.nil) (To.thenN (cn h (fun h=>?_) (fun h=>?_)))
    ·refine Wp.seq (rg [4,5] [] [(4,vi 6),(5,vi 2)] [] (To.thenN (Wp.ret ?_)))
     cases h
     exact hQ
    ·refine Wp.skip (kt [0,1] [] [(0,.str v0),(1,vi v1)] [] ?_)
     cases h
     exact hQ
 ·refine Wp.skip (kt [0,1] [] [(0,.str v0),(1,vi v1)] [] ?_)
  cases h
  exact hQ
def ref13_op_j2 (n:Nat) (v0:List UInt8) (v1:Int) (v35:Bool):Option (Sum (Unit) (Int × Int)) :=
 if v35 = true then (if (decide (0 ≤ v1 ∧ v1 < (List.length v0:Int))) = true then (if ((((v0)[Int.toNat v1]?.getD 0).toNat:Int) == 45) = true then (some (.inr (3,1)))
 else (if (decide (0 ≤ v1 ∧ v1 < (List.length v0:Int))) = true then (if ((((v0)[Int.toNat v1]?.getD 0).toNat:Int) == 63) = true then (some (.inr (5,1)))
 else (if (decide (0 ≤ v1 ∧ v1 < (List.length v0:Int))) = true then (if ((((v0)[Int.toNat v1]?.getD 0).toNat:Int) == 43) = true then (some (.inr (7,1)))
 else (some (.inl ()))) else none)) else none)) else none)
 else (some (.inl ()))
theorem ok_ref13_op_j2 (n:Nat) (v0:List UInt8) (v1:Int) (v35:Bool) (o:Sum (Unit) (Int × Int)) (h:ref13_op_j2 n v0 v1 v35 = some o) {F0:Fz} {w0:Pt Tryz.prog} {Q:Exit → Act → World → Prop} (hQ:(Sum.elim (fun s=>To 48 F0 w0 [] [] .normal Q) (fun s=>To 48 F0 w0 [(4,vi s.1),(5,vi s.2)] [] .ret Q)) o):Wp Tryz.prog 48 F0 w0 [(0,.str v0),(1,vi v1),(35,vb v35)] [] (cB (cA (cB (cB (cF Tryz.f80))))) Q:=by
 unfold ref13_op_j2 at h
 refine cn h (fun h=>?_) (fun h=>?_)
 ·refine Wp.seq (Wp.seq ?_)
  obtain ⟨hc5,h⟩:=chk_of h
  refine r0 [0,1,39] [] [(0,.str v0),(1,vi v1),(39,vb ((ex18 v0 v1) == 45))] [] (AllP.cons hc5 AllP.nil) (To.thenN (cn h (fun h=>?_) (fun h=>?_)))
  ·refine Wp.seq (rg [4,5] [] [(4,vi 3),(5,vi 1)] [] (To.thenN (Wp.ret (To.thenR ?_))))
   cases h
   exact hQ
  ·refine Wp.skip (To.thenN (Wp.seq (Wp.seq ?_)))
   obtain ⟨hc4,h⟩:=chk_of h
   refine r0 [0,1,43] [] [(0,.str v0),(1,vi v1),(43,vb ((ex18 v0 v1) == 63))] [] (AllP.cons hc4 AllP.nil) (To.thenN (cn h (fun h=>?_) (fun h=>?_)))
   ·refine Wp.seq (rg [4,5] [] [(4,vi 5),(5,vi 1)] [] (To.thenN (Wp.ret (To.thenR ?_))))
    cases h
    exact hQ
   ·refine Wp.skip (To.thenN (Wp.seq ?_))
    obtain ⟨hc3,h⟩:=chk_of h
    refine r0 [47] [] [(47,vb ((ex18 v0 v1) == 43))] [] (AllP.cons hc3 AllP.nil) (To.thenN (cn h (fun h=>?_) (fun h=>?_)))
    ·refine Wp.seq (rg [4,5] [] [(4,vi 7),(5,vi 1)] [] (To.thenN (Wp.ret ?_)))
     cases h
     exact hQ
    ·refine Wp.skip (kt [] [] [] [] ?_)
     cases h
     exact hQ
 ·refine Wp.skip (kt [] [] [] [] ?_)
  cases h
  exact hQ
def ref13_op (n:Nat) (a0:List UInt8) (a1:Int):Option (Int × Int) :=
 if ((!((decide ((IntKind.wrap .i64 (a1 + 1)) < (List.length a0:Int))) == true) || decide (0 ≤ a1 ∧ a1 < (List.length a0:Int)))) = true then (lett ((bif (decide ((IntKind.wrap .i64 (a1 + 1)) < (List.length a0:Int))) then ((((a0)[Int.toNat a1]?.getD 0).toNat:Int) == 58) else false):Bool) fun x1 =>
 (ref13_op_j1 n a0 a1 x1).bind fun o2 =>
 (Sum.elim (fun o2=>(ref13_op_j2 n a0 a1 (decide (a1 < (List.length a0:Int)))).bind fun o3 =>
 (Sum.elim (fun o3=>some (1,0)) (fun o3=>some (o3.1,o3.2))) o3) (fun o2=>some (o2.1,o2.2))) o2) else none
abbrev ex41 (x0:Int) (x1:List UInt8):=(decide ((IntKind.wrap .i64 (x0 + 1)) < (List.length x1:Int)))
theorem ok_ref13_op (n:Nat) (a0:List UInt8) (a1:Int) (r:Int × Int) (h:ref13_op n a0 a1 = some r):CallsX Tryz.prog 80 [.str a0,vi a1] (.tup [vi r.1,vi r.2]):=by
 unfold ref13_op at h
 refine xo Tryz.f80 rfl fun F0 w0 _=>?_
 refine Wp.seq (rg [0,1] [] [(0,.str a0),(1,vi a1)] [] (To.thenN (Wp.seq (Wp.seq ?_))))
 obtain ⟨hc4,h⟩:=chk_of h
 obtain ⟨x1,hx1,h⟩:=lett_of h
 refine r0 [0,1,16] [] [(0,.str a0),(1,vi a1),(16,vb (bif (ex41 a1 a0) then ((ex18 a0 a1) == 58) else false))] [] (AllP.cons hc4 AllP.nil) (To.eq (K':=[(0,.str a0),(1,vi a1),(16,vb x1)]) (L':=[]) (by cases hx1; rfl) (by cases hx1; rfl) (To.thenN ?_))
 obtain ⟨o2,ho2,h⟩:=bind_of h
 refine kw [0,1,16] [] [(0,.str a0),(1,vi a1),(16,vb x1)] [] (ok_ref13_op_j1 n a0 a1 x1 o2 ho2 ?_)
 rcases o2 with o2 | o2
 ·replace h:=sum_l h
  refine To.thenN (Wp.seq (Wp.seq (rg [0,1,35] [] [(0,.str a0),(1,vi a1),(35,vb (ex19 a1 a0))] [] (To.thenN ?_))))
  obtain ⟨o3,ho3,h⟩:=bind_of h
  refine kw [0,1,35] [] [(0,.str a0),(1,vi a1),(35,vb (ex19 a1 a0))] [] (ok_ref13_op_j2 n a0 a1 (ex19 a1 a0) o3 ho3 ?_)
  rcases o3 with o3 | o3
  ·replace h:=sum_l h
   refine To.thenN (Wp.seq (rg [4,5] [] [(4,vi 1),(5,vi 0)] [] (To.thenN (Wp.ret ?_))))
   cases h
   exact To.done hΓ (by kernel_rfl)
  ·replace h:=sum_r h
   refine To.thenR ?_
   cases h
   exact To.done hΓ (by kernel_rfl)
 ·replace h:=sum_r h
  refine To.thenR ?_
  cases h
  exact To.done hΓ (by kernel_rfl)
def ref13_parts_j2 (R_ref13_parts:(List UInt8) → Int → Int → Option ((List (S_ref13_Part)) × Int × Int)) (n:Nat) (v0:List UInt8) (v1:Int) (v2:Int) (v9:List (S_ref13_Part)) (v10:Bool) (v72:Bool):Option (Int) :=
 if v72 = true then (some (IntKind.wrap .i64 (v1 + 1)))
 else some v1
abbrev hR37 (R_ref13_parts:(List UInt8) → Int → Int → Option ((List (S_ref13_Part)) × Int × Int)):Prop:=∀ (a0:List UInt8) (a1:Int) (a2:Int) (r:(List (S_ref13_Part)) × Int × Int),R_ref13_parts a0 a1 a2 = some r → CallsX Tryz.prog 53 [.str a0,vi a1,vi a2] (.tup [rs34 r.1,vi r.2.1,vi r.2.2])
theorem ok_ref13_parts_j2 (R_ref13_parts:(List UInt8) → Int → Int → Option ((List (S_ref13_Part)) × Int × Int)) (hR_ref13_parts:hR37 R_ref13_parts) (n:Nat) (v0:List UInt8) (v1:Int) (v2:Int) (v9:List (S_ref13_Part)) (v10:Bool) (v72:Bool) (o:Int) (h:ref13_parts_j2 R_ref13_parts n v0 v1 v2 v9 v10 v72 = some o) {F0:Fz} {w0:Pt Tryz.prog} {Q:Exit → Act → World → Prop} (hQ:To 135 F0 w0 [(0,.str v0),(1,vi o),(2,vi v2),(9,.row 1009),(10,vb v10)] [(1009,117,[rc33 v9])] .normal Q):Wp Tryz.prog 135 F0 w0 [(0,.str v0),(1,vi v1),(2,vi v2),(9,.row 1009),(10,vb v10),(72,vb v72)] [(1009,117,[rc33 v9])] (cB (cA (cB (cB (cB (cB (cB (cB (cI (cB (cI (cI (cA (cB (cB (cF Tryz.f53)))))))))))))))) Q:=by
 unfold ref13_parts_j2 at h
 refine cn h (fun h=>?_) (fun h=>?_)
 ·refine rg [0,1,2,9,10] [1009] [(0,.str v0),(ex37 v1),(2,vi v2),(9,.row 1009),(10,vb v10)] [(1009,117,[rc33 v9])] (kt [0,1,2,9,10] [1009] [(0,.str v0),(ex37 v1),(2,vi v2),(9,.row 1009),(10,vb v10)] [(1009,117,[rc33 v9])] ?_)
  cases h
  exact hQ
 ·refine Wp.skip (kt [0,1,2,9,10] [1009] [(0,.str v0),(1,vi v1),(2,vi v2),(9,.row 1009),(10,vb v10)] [(1009,117,[rc33 v9])] ?_)
  cases h
  exact hQ
def ref13_parts_j4 (R_ref13_parts:(List UInt8) → Int → Int → Option ((List (S_ref13_Part)) × Int × Int)) (n:Nat) (v0:List UInt8) (v1:Int) (v2:Int) (v9:List (S_ref13_Part)) (v101:Bool) (b12:S_ref13_Part):Option (Sum (Int × S_ref13_Part) (Int × Int)) :=
 if v101 = true then ((R_ref13_parts v0 v1 (IntKind.wrap .i64 (v2 + 1))).bind fun r10 =>
 if (r10.2.2 != 0) = true then (some (.inr (0,r10.2.2)))
 else (some (.inl (r10.2.1,(S_ref13_Part.mk b12.f_Name b12.f_Text b12.f_Op r10.1)))))
 else (some (.inl (v1,b12)))
abbrev qc38 (x:S_ref13_Part):List D:=[.str x.f_Name,.str x.f_Text,vi x.f_Op,tn36 x.f_Sub]
theorem ok_ref13_parts_j4 (R_ref13_parts:(List UInt8) → Int → Int → Option ((List (S_ref13_Part)) × Int × Int)) (hR_ref13_parts:hR37 R_ref13_parts) (n:Nat) (v0:List UInt8) (v1:Int) (v2:Int) (v9:List (S_ref13_Part)) (v101:Bool) (b12:S_ref13_Part) (o:Sum (Int × S_ref13_Part) (Int × Int)) (h:ref13_parts_j4 R_ref13_parts n v0 v1 v2 v9 v101 b12 = some o) {F0:Fz} {w0:Pt Tryz.prog} {Q:Exit → Act → World → Prop} (hQ:(Sum.elim (fun s=>To 135 F0 w0 [(0,.str v0),(1,vi s.1),(2,vi v2),(9,.row 1009),(12,.own 12 0)] [(12,117,qc38 s.2),(1009,117,[rc33 v9])] .normal Q) (fun s=>To 135 F0 w0 [(6,.val (.slice none 0 0)),(7,vi s.1),(8,vi s.2)] [] .ret Q)) o):Wp Tryz.prog 135 F0 w0 [(0,.str v0),(1,vi v1),(2,vi v2),(9,.row 1009),(12,.own 12 0),(101,vb v101)] [(12,117,qc38 b12),(1009,117,[rc33 v9])] (cB (cA (cB (cB (cB (cT (cB (cA (cB (cB (cB (cB (cB (cB (cB (cB (cB (cB (cB (cI (cB (cI (cI (cA (cB (cB (cF Tryz.f53))))))))))))))))))))))))))) Q:=by
 unfold ref13_parts_j4 at h
 refine cn h (fun h=>?_) (fun h=>?_)
 ·refine Wp.seq ?_
  obtain ⟨r10,hr10,h⟩:=bind_of h
  refine rr [] [(4,.tup [rs34 r10.1,vi r10.2.1,vi r10.2.2])] [] [0,2,9,12,15,16,17] [12,1009] [(0,.str v0),(2,vi v2),(9,.row 1009),(12,.own 12 0),(15,rs34 r10.1),(16,vi r10.2.1),(17,vi r10.2.2)] [(12,117,qc38 b12),(1009,117,[rc33 v9])] [(true = true → CX Tryz.prog 53 [.str v0,vi v1,vi (IntKind.wrap .i64 (v2 + 1))] (.tup [rs34 r10.1,vi r10.2.1,vi r10.2.2]))] (AllP.cons (fun _=>cx (hR_ref13_parts v0 v1 (IntKind.wrap .i64 (v2 + 1)) _ hr10)) AllP.nil) (To.thenN (Wp.seq (Wp.seq (rg [0,2,9,12,15,16,17,112] [12,1009] [(0,.str v0),(2,vi v2),(9,.row 1009),(12,.own 12 0),(15,rs34 r10.1),(16,vi r10.2.1),(17,vi r10.2.2),(112,vb (r10.2.2 != 0))] [(12,117,qc38 b12),(1009,117,[rc33 v9])] (To.thenN (cn h (fun h=>?_) (fun h=>?_)))))))
  ·refine Wp.seq (rg [6,7,8] [] [(6,.val (.slice none 0 0)),(7,vi 0),(8,vi r10.2.2)] [] (To.thenN (Wp.ret (To.thenR ?_))))
   cases h
   exact hQ
  ·refine Wp.skip (To.thenN (Wp.seq (rg [0,2,9,12,16] [12,1009] [(0,.str v0),(2,vi v2),(9,.row 1009),(12,.own 12 0),(16,vi r10.2.1)] [(12,117,[.str b12.f_Name,.str b12.f_Text,vi b12.f_Op,rs34 r10.1]),(1009,117,[rc33 v9])] (To.thenN (rg [0,1,2,9,12] [12,1009] [(0,.str v0),(1,vi r10.2.1),(2,vi v2),(9,.row 1009),(12,.own 12 0)] [(12,117,[.str b12.f_Name,.str b12.f_Text,vi b12.f_Op,rs34 r10.1]),(1009,117,[rc33 v9])] (kt [0,1,2,9,12] [12,1009] [(0,.str v0),(1,vi r10.2.1),(2,vi v2),(9,.row 1009),(12,.own 12 0)] [(12,117,[.str b12.f_Name,.str b12.f_Text,vi b12.f_Op,rs34 r10.1]),(1009,117,[rc33 v9])] (To.weak (K':=[(0,.str v0),(1,vi r10.2.1),(2,vi v2),(9,.row 1009),(12,.own 12 0)]) (L':=[(12,117,[.str b12.f_Name,.str b12.f_Text,vi b12.f_Op,tn36 r10.1]),(1009,117,[rc33 v9])]) (.cons (.refl _) (.cons (.refl _) (.cons (.refl _) (.cons (.refl _) (.cons (.refl _) .nil))))) (.cons (.cons (.refl _) (.cons (.refl _) (.cons (.refl _) (.cons (.close _ _ _ _) .nil)))) (.cons (.cons (.refl _) .nil) .nil)) ?_)))))))
   cases h
   exact hQ
 ·refine Wp.skip (kt [0,1,2,9,12] [12,1009] [(0,.str v0),(1,vi v1),(2,vi v2),(9,.row 1009),(12,.own 12 0)] [(12,117,qc38 b12),(1009,117,[rc33 v9])] ?_)
  cases h
  exact hQ
def ref13_parts_j3 (R_ref13_parts:(List UInt8) → Int → Int → Option ((List (S_ref13_Part)) × Int × Int)) (n:Nat) (v0:List UInt8) (v1:Int) (v2:Int) (v9:List (S_ref13_Part)) (v88:Bool) (b12:S_ref13_Part):Option (Sum (Int × S_ref13_Part) (Int × Int)) :=
 if v88 = true then ((ref13_op n v0 v1).bind fun r9 =>
 (ref13_parts_j4 R_ref13_parts n v0 (IntKind.wrap .i64 (v1 + r9.2)) v2 v9 (decide (r9.1 > 1)) (S_ref13_Part.mk b12.f_Name b12.f_Text r9.1 b12.f_Sub)).bind fun o10 =>
 (Sum.elim (fun o10=>if ((!((decide (o10.1 ≥ (List.length v0:Int))) == false) || decide (0 ≤ o10.1 ∧ o10.1 < (List.length v0:Int)))) = true then (if (bif (decide (o10.1 ≥ (List.length v0:Int))) then true else ((((v0)[Int.toNat o10.1]?.getD 0).toNat:Int) != 125)) = true then (some (.inr (0,3)))
 else (some (.inl ((IntKind.wrap .i64 (o10.1 + 1)),o10.2)))) else none) (fun o10=>some (.inr (o10.1,o10.2)))) o10)
 else (some (.inl (v1,b12)))
theorem ok_ref13_parts_j3 (R_ref13_parts:(List UInt8) → Int → Int → Option ((List (S_ref13_Part)) × Int × Int)) (hR_ref13_parts:hR37 R_ref13_parts) (n:Nat) (v0:List UInt8) (v1:Int) (v2:Int) (v9:List (S_ref13_Part)) (v88:Bool) (b12:S_ref13_Part) (o:Sum (Int × S_ref13_Part) (Int × Int)) (h:ref13_parts_j3 R_ref13_parts n v0 v1 v2 v9 v88 b12 = some o) {F0:Fz} {w0:Pt Tryz.prog} {Q:Exit → Act → World → Prop} (hQ:(Sum.elim (fun s=>To 135 F0 w0 [(0,.str v0),(1,vi s.1),(2,vi v2),(9,.row 1009),(12,.own 12 0)] [(12,117,qc38 s.2),(1009,117,[rc33 v9])] .normal Q) (fun s=>To 135 F0 w0 [(6,.val (.slice none 0 0)),(7,vi s.1),(8,vi s.2)] [] .ret Q)) o):Wp Tryz.prog 135 F0 w0 [(0,.str v0),(1,vi v1),(2,vi v2),(9,.row 1009),(12,.own 12 0),(88,vb v88)] [(12,117,qc38 b12),(1009,117,[rc33 v9])] (cB (cA (cB (cB (cB (cB (cB (cB (cB (cB (cB (cB (cB (cI (cB (cI (cI (cA (cB (cB (cF Tryz.f53))))))))))))))))))))) Q:=by
 unfold ref13_parts_j3 at h
 refine cn h (fun h=>?_) (fun h=>?_)
 ·refine Wp.seq ?_
  obtain ⟨r9,hr9,h⟩:=bind_of h
  refine rc [] 2 [0,1,2,9,12,13,14] [12,1009] [(0,.str v0),(1,vi v1),(2,vi v2),(9,.row 1009),(12,.own 12 0),(13,vi r9.1),(14,vi r9.2)] [(12,117,qc38 b12),(1009,117,[rc33 v9])] (ok_ref13_op n v0 v1 _ hr9) (To.thenN (Wp.seq (rg [0,1,2,9,12,13,14] [12,1009] [(0,.str v0),(1,vi v1),(2,vi v2),(9,.row 1009),(12,.own 12 0),(13,vi r9.1),(14,vi r9.2)] [(12,117,[.str b12.f_Name,.str b12.f_Text,vi r9.1,tn36 b12.f_Sub]),(1009,117,[rc33 v9])] (To.thenN (Wp.seq (rg [0,1,2,9,12,13] [12,1009] [(0,.str v0),(1,vi (IntKind.wrap .i64 (v1 + r9.2))),(2,vi v2),(9,.row 1009),(12,.own 12 0),(13,vi r9.1)] [(12,117,[.str b12.f_Name,.str b12.f_Text,vi r9.1,tn36 b12.f_Sub]),(1009,117,[rc33 v9])] (To.thenN (Wp.seq (Wp.seq (rg [0,1,2,9,12,101] [12,1009] [(0,.str v0),(1,vi (IntKind.wrap .i64 (v1 + r9.2))),(2,vi v2),(9,.row 1009),(12,.own 12 0),(101,vb (decide (r9.1 > 1)))] [(12,117,[.str b12.f_Name,.str b12.f_Text,vi r9.1,tn36 b12.f_Sub]),(1009,117,[rc33 v9])] ?_))))))))))
  refine To.thenN ?_
  obtain ⟨o10,ho10,h⟩:=bind_of h
  refine kw [0,1,2,9,12,101] [12,1009] [(0,.str v0),(1,vi (IntKind.wrap .i64 (v1 + r9.2))),(2,vi v2),(9,.row 1009),(12,.own 12 0),(101,vb (decide (r9.1 > 1)))] [(12,117,[.str b12.f_Name,.str b12.f_Text,vi r9.1,tn36 b12.f_Sub]),(1009,117,[rc33 v9])] (ok_ref13_parts_j4 R_ref13_parts hR_ref13_parts n v0 (IntKind.wrap .i64 (v1 + r9.2)) v2 v9 (decide (r9.1 > 1)) (S_ref13_Part.mk b12.f_Name b12.f_Text r9.1 b12.f_Sub) o10 ho10 ?_)
  rcases o10 with o10 | o10
  ·replace h:=sum_l h
   refine To.thenN (Wp.seq (Wp.seq ?_))
   obtain ⟨hc11,h⟩:=chk_of h
   refine r0 [0,1,2,9,12,126] [12,1009] [(0,.str v0),(1,vi o10.1),(2,vi v2),(9,.row 1009),(12,.own 12 0),(126,vb (bif (decide (o10.1 ≥ (List.length v0:Int))) then true else ((((v0)[Int.toNat o10.1]?.getD 0).toNat:Int) != 125)))] [(12,117,qc38 o10.2),(1009,117,[rc33 v9])] (AllP.cons hc11 AllP.nil) (To.thenN (cn h (fun h=>?_) (fun h=>?_)))
   ·refine Wp.seq (rg [6,7,8] [] [(6,.val (.slice none 0 0)),(7,vi 0),(8,vi 3)] [] (To.thenN (Wp.ret (To.thenR ?_))))
    cases h
    exact hQ
   ·refine Wp.skip (To.thenN (rg [0,1,2,9,12] [12,1009] [(0,.str v0),(1,vi (IntKind.wrap .i64 (o10.1 + 1))),(2,vi v2),(9,.row 1009),(12,.own 12 0)] [(12,117,qc38 o10.2),(1009,117,[rc33 v9])] (kt [0,1,2,9,12] [12,1009] [(0,.str v0),(1,vi (IntKind.wrap .i64 (o10.1 + 1))),(2,vi v2),(9,.row 1009),(12,.own 12 0)] [(12,117,qc38 o10.2),(1009,117,[rc33 v9])] ?_)))
    cases h
    exact hQ
  ·replace h:=sum_r h
   refine To.thenR (kt [6,7,8] [] [(6,.val (.slice none 0 0)),(7,vi o10.1),(8,vi o10.2)] [] ?_)
   cases h
   exact hQ
 ·refine Wp.skip (kt [0,1,2,9,12] [12,1009] [(0,.str v0),(1,vi v1),(2,vi v2),(9,.row 1009),(12,.own 12 0)] [(12,117,qc38 b12),(1009,117,[rc33 v9])] ?_)
  cases h
  exact hQ
def ref13_parts_l1 (R_ref13_parts:(List UInt8) → Int → Int → Option ((List (S_ref13_Part)) × Int × Int)) (n:Nat) (v0:List UInt8) (v2:Int):Nat → Int → (List (S_ref13_Part)) → Option (Sum (Int × (List (S_ref13_Part))) ((List (S_ref13_Part)) × Int × Int))
 | 0,_,_=>none
 | k + 1,v1,v9=>if (decide (v1 < (List.length v0:Int))) = true then (if (decide (0 ≤ v1 ∧ v1 < (List.length v0:Int))) = true then (if (bif ((((v0)[Int.toNat v1]?.getD 0).toNat:Int) == 125) then (decide (v2 > 1)) else false) = true then (some (.inr (v9,v1,0)))
 else (if (decide (0 ≤ v1 ∧ v1 < (List.length v0:Int))) = true then (if ((((v0)[Int.toNat v1]?.getD 0).toNat:Int) != 36) = true then (if (decide (0 ≤ v1 ∧ v1 < (List.length v0:Int))) = true then ((ref13_words_o__r0 n (((v0)[Int.toNat v1]?.getD 0).toNat:Int) v9).bind fun r1 =>
 ref13_parts_l1 R_ref13_parts n v0 v2 k (IntKind.wrap .i64 (v1 + 1)) r1.1) else none)
 else (if ((!((decide ((IntKind.wrap .i64 (v1 + 1)) < (List.length v0:Int))) == true) || decide (0 ≤ (IntKind.wrap .i64 (v1 + 1)) ∧ (IntKind.wrap .i64 (v1 + 1)) < (List.length v0:Int)))) = true then (lett ((bif (decide ((IntKind.wrap .i64 (v1 + 1)) < (List.length v0:Int))) then ((((v0)[Int.toNat (IntKind.wrap .i64 (v1 + 1))]?.getD 0).toNat:Int) == 36) else false):Bool) fun x3 =>
 if x3 = true then ((ref13_words_o__r0 n 36 v9).bind fun r4 =>
 ref13_parts_l1 R_ref13_parts n v0 v2 k (IntKind.wrap .i64 ((IntKind.wrap .i64 (v1 + 1)) + 1)) r4.1)
 else (if ((!((decide ((IntKind.wrap .i64 (v1 + 1)) < (List.length v0:Int))) == true) || decide (0 ≤ (IntKind.wrap .i64 (v1 + 1)) ∧ (IntKind.wrap .i64 (v1 + 1)) < (List.length v0:Int)))) = true then (lett ((bif (decide ((IntKind.wrap .i64 (v1 + 1)) < (List.length v0:Int))) then ((((v0)[Int.toNat (IntKind.wrap .i64 (v1 + 1))]?.getD 0).toNat:Int) == 123) else false):Bool) fun x5 =>
 if (decide (v2 > 8)) = true then (some (.inr (([]:List (S_ref13_Part)),0,9)))
 else ((ref13_parts_j2 R_ref13_parts n v0 (IntKind.wrap .i64 (v1 + 1)) v2 v9 x5 x5).bind fun o6 =>
 (ref13_found n v0 o6).bind fun r7 =>
 if (decide (0 ≤ r7 ∧ r7 ≤ (List.length v0:Int))) = true then (if (decide (0 ≤ o6 ∧ o6 ≤ r7)) = true then ((ref02_Variable n (List.take (Int.toNat r7 - Int.toNat o6) (List.drop (Int.toNat o6) v0))).bind fun r8 =>
 if (!r8) = true then (some (.inr (([]:List (S_ref13_Part)),0,3)))
 else ((ref13_parts_j3 R_ref13_parts n v0 r7 v2 v9 x5 (S_ref13_Part.mk (List.take (Int.toNat r7 - Int.toNat o6) (List.drop (Int.toNat o6) v0)) [] 1 [])).bind fun o9 =>
 (Sum.elim (fun o9=>if (decide ((List.length v9 + List.length ([o9.2]:List (S_ref13_Part))) * (64 + 1) ≤ limit)) = true then (ref13_parts_l1 R_ref13_parts n v0 v2 k o9.1 (v9 ++ ([o9.2]:List (S_ref13_Part)))) else none) (fun o9=>some (.inr (([]:List (S_ref13_Part)),o9.1,o9.2)))) o9)) else none) else none)) else none)) else none)) else none)) else none)
 else (some (.inl (v1,v9)))
abbrev ex42 (x0:Int):=(IntKind.wrap .i64 ((IntKind.wrap .i64 (x0 + 1)) + 1))
theorem ok_ref13_parts_l1 (R_ref13_parts:(List UInt8) → Int → Int → Option ((List (S_ref13_Part)) × Int × Int)) (hR_ref13_parts:hR37 R_ref13_parts) (n:Nat) (v0:List UInt8) (v2:Int) {F0:Fz} {w0:Pt Tryz.prog} {Q:Exit → Act → World → Prop} (k:Nat):∀ (v1:Int) (v9:List (S_ref13_Part)) (o:Sum (Int × (List (S_ref13_Part))) ((List (S_ref13_Part)) × Int × Int)),ref13_parts_l1 R_ref13_parts n v0 v2 k v1 v9 = some o → (Sum.elim (fun s=>To 135 F0 w0 [(1,vi s.1),(9,.row 1009)] [(1009,117,[rc33 s.2])] (.exit 0) Q) (fun s=>To 135 F0 w0 [(6,.row 1006),(7,vi s.2.1),(8,vi s.2.2)] [(1006,117,[rc33 s.1])] .ret Q)) o → WL Tryz.prog 135 F0 w0 [(0,.str v0),(1,vi v1),(2,vi v2),(9,.row 1009)] [(1009,117,[rc33 v9])] (cI (cI (cA (cB (cB (cF Tryz.f53)))))) Q:=by
 induction k with
 | zero=>intro v1 v9 o h; cases h
 | succ k ih =>
  intro v1 v9 o h hQ
  rw [ref13_parts_l1] at h
  refine WL.round (Wp.seq (Wp.seq (rg [0,1,2,9,22] [1009] [(0,.str v0),(1,vi v1),(2,vi v2),(9,.row 1009),(22,vb (ex19 v1 v0))] [(1009,117,[rc33 v9])] (To.thenN (cn h (fun h=>?_) (fun h=>?_))))))
  ·refine Wp.skip (To.thenN (Wp.block (Wp.seq (Wp.seq ?_))))
   obtain ⟨hc16,h⟩:=chk_of h
   refine r0 [0,1,2,9,30] [1009] [(0,.str v0),(1,vi v1),(2,vi v2),(9,.row 1009),(30,vb (bif ((ex18 v0 v1) == 125) then (decide (v2 > 1)) else false))] [(1009,117,[rc33 v9])] (AllP.cons hc16 AllP.nil) (To.thenN (cn h (fun h=>?_) (fun h=>?_)))
   ·refine Wp.seq (rg [6,7,8] [1009] [(6,.row 1009),(7,vi v1),(8,vi 0)] [(1009,117,[rc33 v9])] (To.thenN (Wp.ret (To.thenR (To.blockR (To.thenR (nt [6,7,8] [1009] [(1009,1006)] [6,7,8] [1006] [(6,.row 1006),(7,vi v1),(8,vi 0)] [(1006,117,[rc33 v9])] ?_)))))))
    cases h
    exact hQ
   ·refine Wp.skip (To.thenN (Wp.seq (Wp.seq ?_)))
    obtain ⟨hc15,h⟩:=chk_of h
    refine r0 [0,1,2,9,36] [1009] [(0,.str v0),(1,vi v1),(2,vi v2),(9,.row 1009),(36,vb ((ex18 v0 v1) != 36))] [(1009,117,[rc33 v9])] (AllP.cons hc15 AllP.nil) (To.thenN (cn h (fun h=>?_) (fun h=>?_)))
    ·refine Wp.seq ?_
     obtain ⟨hc2,h⟩:=chk_of h
     obtain ⟨r1,hr1,h⟩:=bind_of h
     refine rr [] [] [(4,⟨[(1000000,1009)],[(1,41)],[.row 1000000,.val (.int .u8 (ex18 v0 v1))],[(1000000,117,[rc33 v9])],.row 1,[(1,117,[rc33 r1.1])]⟩)] [0,1,2,9] [41] [(0,.str v0),(1,vi v1),(2,vi v2),(9,.row 41)] [(41,117,[rc33 r1.1])] [_,CbOb (CallsB Tryz.prog) 78 [.row 1009,.val (.int .u8 (ex18 v0 v1))] [some (117,[rc33 v9])] ⟨[(1000000,1009)],[(1,41)],[.row 1000000,.val (.int .u8 (ex18 v0 v1))],[(1000000,117,[rc33 v9])],.row 1,[(1,117,[rc33 r1.1])]⟩] (AllP.cons hc2 (AllP.cons (⟨(ok_ref13_words_o__r0 n (ex18 v0 v1) v9 _ hr1),by kernel_rfl,by kernel_rfl⟩) AllP.nil)) ?_
     refine To.thenN (Wp.seq (rg [0,1,2,9] [41] [(0,.str v0),(ex37 v1),(2,vi v2),(9,.row 41)] [(41,117,[rc33 r1.1])] (To.thenN (Wp.exit (To.thenX (To.blockX (nt [0,1,2,9] [41] [(41,1009)] [0,1,2,9] [1009] [(0,.str v0),(ex37 v1),(2,vi v2),(9,.row 1009)] [(1009,117,[rc33 r1.1])] (To.again ?_))))))))
     exact ih (IntKind.wrap .i64 (v1 + 1)) r1.1 _ h hQ
    ·refine Wp.skip (To.thenN (Wp.seq (rg [0,1,2,9] [1009] [(0,.str v0),(ex37 v1),(2,vi v2),(9,.row 1009)] [(1009,117,[rc33 v9])] (To.thenN (Wp.seq (Wp.seq ?_))))))
     obtain ⟨hc14,h⟩:=chk_of h
     obtain ⟨x3,hx3,h⟩:=lett_of h
     refine r0 [0,1,2,9,55] [1009] [(0,.str v0),(ex37 v1),(2,vi v2),(9,.row 1009),(55,vb (bif (ex41 v1 v0) then ((ex39 v0 v1) == 36) else false))] [(1009,117,[rc33 v9])] (AllP.cons hc14 AllP.nil) (To.eq (K':=[(0,.str v0),(ex37 v1),(2,vi v2),(9,.row 1009),(55,vb x3)]) (L':=[(1009,117,[rc33 v9])]) (by cases hx3; rfl) (by cases hx3; rfl) (To.thenN (cn h (fun h=>?_) (fun h=>?_))))
     ·refine Wp.seq ?_
      obtain ⟨r4,hr4,h⟩:=bind_of h
      refine rb [] 1 ⟨[(1000000,1009)],[(1,57)],[.row 1000000,.val (.int .u8 36)],[(1000000,117,[rc33 v9])],.row 1,[(1,117,[rc33 r4.1])]⟩ [0,1,2,9] [57] [(0,.str v0),(ex37 v1),(2,vi v2),(9,.row 57)] [(57,117,[rc33 r4.1])] ((ok_ref13_words_o__r0 n 36 v9 _ hr4)) (To.thenN (Wp.seq (rg [0,1,2,9] [57] [(0,.str v0),(1,vi (ex42 v1)),(2,vi v2),(9,.row 57)] [(57,117,[rc33 r4.1])] (To.thenN (Wp.exit (To.thenX (To.blockX (nt [0,1,2,9] [57] [(57,1009)] [0,1,2,9] [1009] [(0,.str v0),(1,vi (ex42 v1)),(2,vi v2),(9,.row 1009)] [(1009,117,[rc33 r4.1])] (To.again ?_)))))))))
      exact ih (ex42 v1) r4.1 _ h hQ
     ·refine Wp.skip (To.thenN (Wp.seq ?_))
      obtain ⟨hc13,h⟩:=chk_of h
      obtain ⟨x5,hx5,h⟩:=lett_of h
      refine r0 [0,1,2,9,10] [1009] [(0,.str v0),(ex37 v1),(2,vi v2),(9,.row 1009),(10,vb (bif (ex41 v1 v0) then ((ex39 v0 v1) == 123) else false))] [(1009,117,[rc33 v9])] (AllP.cons hc13 AllP.nil) (To.eq (K':=[(0,.str v0),(ex37 v1),(2,vi v2),(9,.row 1009),(10,vb x5)]) (L':=[(1009,117,[rc33 v9])]) (by cases hx5; rfl) (by cases hx5; rfl) (To.thenN (Wp.seq (Wp.seq (rg [0,1,2,9,10,71] [1009] [(0,.str v0),(ex37 v1),(2,vi v2),(9,.row 1009),(10,vb x5),(71,vb (decide (v2 > 8)))] [(1009,117,[rc33 v9])] (To.thenN (cn h (fun h=>?_) (fun h=>?_))))))))
      ·refine Wp.seq (rg [6,7,8] [] [(6,.val (.slice none 0 0)),(7,vi 0),(8,vi 9)] [] (To.thenN (Wp.ret (To.thenR (To.blockR (To.thenR (To.pre (St.vacant (t:=6) (k:=1006) (e:=117) (K':=[(6,.row 1006),(7,vi 0),(8,vi 9)]) (good_E_ref13_Part _) (by decide) (by kernel_rfl) (by kernel_rfl)) (kt [6,7,8] [1006] [(6,.row 1006),(7,vi 0),(8,vi 9)] [(1006,117,[rc33 []])] ?_))))))))
       cases h
       exact hQ
      ·refine Wp.skip (To.thenN (Wp.seq (Wp.seq (rg [0,1,2,9,10,72] [1009] [(0,.str v0),(ex37 v1),(2,vi v2),(9,.row 1009),(10,vb x5),(72,vb x5)] [(1009,117,[rc33 v9])] (To.thenN ?_)))))
       obtain ⟨o6,ho6,h⟩:=bind_of h
       refine kw [0,1,2,9,10,72] [1009] [(0,.str v0),(ex37 v1),(2,vi v2),(9,.row 1009),(10,vb x5),(72,vb x5)] [(1009,117,[rc33 v9])] (ok_ref13_parts_j2 R_ref13_parts hR_ref13_parts n v0 (IntKind.wrap .i64 (v1 + 1)) v2 v9 x5 x5 o6 ho6 (To.thenN (Wp.seq ?_)))
       obtain ⟨r7,hr7,h⟩:=bind_of h
       refine rc [] 2 [0,1,2,9,10,11] [1009] [(0,.str v0),(1,vi o6),(2,vi v2),(9,.row 1009),(10,vb x5),(11,vi r7)] [(1009,117,[rc33 v9])] (ok_ref13_found n v0 o6 _ hr7) (To.thenN (Wp.seq ?_))
       obtain ⟨hc11,h⟩:=chk_of h
       obtain ⟨hc12,h⟩:=chk_of h
       refine r0 [0,2,9,10,11,12] [12,1009] [(0,.str v0),(2,vi v2),(9,.row 1009),(10,vb x5),(11,vi r7),(12,.own 12 0)] [(12,117,[.str (List.take (Int.toNat r7 - Int.toNat o6) (List.drop (Int.toNat o6) v0)),.str [],vi 1,.val (.slice none 0 0)]),(1009,117,[rc33 v9])] (AllP.cons hc11 (AllP.cons hc12 AllP.nil)) (To.thenN (Wp.seq (Wp.seq ?_)))
       obtain ⟨r8,hr8,h⟩:=bind_of h
       refine rc [] 2 [0,2,9,10,11,12,86] [12,1009] [(0,.str v0),(2,vi v2),(9,.row 1009),(10,vb x5),(11,vi r7),(12,.own 12 0),(86,vb (!r8))] [(12,117,[.str (List.take (Int.toNat r7 - Int.toNat o6) (List.drop (Int.toNat o6) v0)),.str [],vi 1,.val (.slice none 0 0)]),(1009,117,[rc33 v9])] (ok_ref02_Variable n (List.take (Int.toNat r7 - Int.toNat o6) (List.drop (Int.toNat o6) v0)) _ hr8) (To.thenN (cn h (fun h=>?_) (fun h=>?_)))
       ·refine Wp.seq (rg [6,7,8] [] [(6,.val (.slice none 0 0)),(7,vi 0),(8,vi 3)] [] (To.thenN (Wp.ret (To.thenR (To.blockR (To.thenR (To.pre (St.vacant (t:=6) (k:=1006) (e:=117) (K':=[(6,.row 1006),(7,vi 0),(8,vi 3)]) (good_E_ref13_Part _) (by decide) (by kernel_rfl) (by kernel_rfl)) (kt [6,7,8] [1006] [(6,.row 1006),(7,vi 0),(8,vi 3)] [(1006,117,[rc33 []])] ?_))))))))
        cases h
        exact hQ
       ·refine Wp.skip (To.thenN (Wp.seq (rg [0,1,2,9,10,12] [12,1009] [(0,.str v0),(1,vi r7),(2,vi v2),(9,.row 1009),(10,vb x5),(12,.own 12 0)] [(12,117,[.str (List.take (Int.toNat r7 - Int.toNat o6) (List.drop (Int.toNat o6) v0)),.str [],vi 1,.val (.slice none 0 0)]),(1009,117,[rc33 v9])] (To.thenN (Wp.seq (Wp.seq (rg [0,1,2,9,12,88] [12,1009] [(0,.str v0),(1,vi r7),(2,vi v2),(9,.row 1009),(12,.own 12 0),(88,vb x5)] [(12,117,[.str (List.take (Int.toNat r7 - Int.toNat o6) (List.drop (Int.toNat o6) v0)),.str [],vi 1,.val (.slice none 0 0)]),(1009,117,[rc33 v9])] (To.thenN ?_))))))))
        obtain ⟨o9,ho9,h⟩:=bind_of h
        refine kw [0,1,2,9,12,88] [12,1009] [(0,.str v0),(1,vi r7),(2,vi v2),(9,.row 1009),(12,.own 12 0),(88,vb x5)] [(12,117,[.str (List.take (Int.toNat r7 - Int.toNat o6) (List.drop (Int.toNat o6) v0)),.str [],vi 1,.val (.slice none 0 0)]),(1009,117,[rc33 v9])] (Wp.weak (K':=[(0,.str v0),(1,vi r7),(2,vi v2),(9,.row 1009),(12,.own 12 0),(88,vb x5)]) (L':=[(12,117,[.str (List.take (Int.toNat r7 - Int.toNat o6) (List.drop (Int.toNat o6) v0)),.str [],vi 1,tn36 []]),(1009,117,[rc33 v9])]) (.cons (.refl _) (.cons (.refl _) (.cons (.refl _) (.cons (.refl _) (.cons (.refl _) (.cons (.refl _) .nil)))))) (.cons (.cons (.refl _) (.cons (.refl _) (.cons (.refl _) (.cons (.zeroT _ _ _) .nil)))) (.cons (.cons (.refl _) .nil) .nil)) (ok_ref13_parts_j3 R_ref13_parts hR_ref13_parts n v0 r7 v2 v9 x5 (S_ref13_Part.mk (List.take (Int.toNat r7 - Int.toNat o6) (List.drop (Int.toNat o6) v0)) [] 1 []) o9 ho9 ?_))
        rcases o9 with o9 | o9
        ·replace h:=sum_l h
         refine To.thenN ?_
         obtain ⟨hc10,h⟩:=chk_of h
         refine rr [] [(2,rs34 [o9.2]),(3,rs34 (v9 ++ ([o9.2]:List (S_ref13_Part))))] [] [0,1,2,9] [132] [(0,.str v0),(1,vi o9.1),(2,vi v2),(9,.row 132)] [(132,117,[rc33 (v9 ++ ([o9.2]:List (S_ref13_Part)))])] [(MkOb 4 (qc38 o9.2) 1 (rs34 [o9.2]) ∧ GoodR (rs34 [o9.2])),_,(AppOb zx32 E_ref13_Part v9 (List.flatMap E_ref13_Part ([o9.2]:List (S_ref13_Part))) (List.length ([o9.2]:List (S_ref13_Part))) (rs34 (v9 ++ ([o9.2]:List (S_ref13_Part)))) ∧ GoodR (rs34 (v9 ++ ([o9.2]:List (S_ref13_Part)))))] (AllP.cons (mkOb (by kernel_rfl) rfl (by kernel_rfl) (good_E_ref13_Part _)) (AllP.cons hc10 (AllP.cons (appOb rfl rfl (good_E_ref13_Part _)) AllP.nil))) (To.blockN (nt [0,1,2,9] [132] [(132,1009)] [0,1,2,9] [1009] [(0,.str v0),(1,vi o9.1),(2,vi v2),(9,.row 1009)] [(1009,117,[rc33 (v9 ++ ([o9.2]:List (S_ref13_Part)))])] (To.again ?_)))
         exact ih o9.1 (v9 ++ ([o9.2]:List (S_ref13_Part))) _ h hQ
        ·replace h:=sum_r h
         refine To.thenR (To.blockR (To.thenR (kt [6,7,8] [] [(6,.val (.slice none 0 0)),(7,vi o9.1),(8,vi o9.2)] [] (To.pre (St.vacant (t:=6) (k:=1006) (e:=117) (K':=[(6,.row 1006),(7,vi o9.1),(8,vi o9.2)]) (good_E_ref13_Part _) (by decide) (by kernel_rfl) (by kernel_rfl)) (kt [6,7,8] [1006] [(6,.row 1006),(7,vi o9.1),(8,vi o9.2)] [(1006,117,[rc33 []])] ?_)))))
         cases h
         exact hQ
  ·refine Wp.exit (To.thenX (To.thenX (kt [1,9] [1009] [(1,vi v1),(9,.row 1009)] [(1009,117,[rc33 v9])] ?_)))
   cases h
   exact hQ
def ref13_parts_b (R_ref13_parts:(List UInt8) → Int → Int → Option ((List (S_ref13_Part)) × Int × Int)) (n:Nat) (a0:List UInt8) (a1:Int) (a2:Int):Option ((List (S_ref13_Part)) × Int × Int) :=
 (ref13_parts_l1 R_ref13_parts n a0 a2 n a1 ([]:List (S_ref13_Part))).bind fun o1 =>
 (Sum.elim (fun o1=>some (o1.2,o1.1,0)) (fun o1=>some (o1.1,o1.2.1,o1.2.2))) o1
theorem ok_ref13_parts_b (R_ref13_parts:(List UInt8) → Int → Int → Option ((List (S_ref13_Part)) × Int × Int)) (hR_ref13_parts:hR37 R_ref13_parts) (n:Nat) (a0:List UInt8) (a1:Int) (a2:Int) (r:(List (S_ref13_Part)) × Int × Int) (h:ref13_parts_b R_ref13_parts n a0 a1 a2 = some r):CallsX Tryz.prog 53 [.str a0,vi a1,vi a2] (.tup [rs34 r.1,vi r.2.1,vi r.2.2]):=by
 unfold ref13_parts_b at h
 refine xo Tryz.f53 rfl fun F0 w0 _=>?_
 refine Wp.seq (rg [0,1,2] [] [(0,.str a0),(1,vi a1),(2,vi a2)] [] (To.thenN (Wp.seq (rr [] [(0,rs34 [])] [] [0,1,2,9] [18] [(0,.str a0),(1,vi a1),(2,vi a2),(9,.row 18)] [(18,117,[rc33 []])] [(MkOb 4 [] 0 (rs34 []) ∧ GoodR (rs34 []))] (AllP.cons (mkOb (by kernel_rfl) rfl (by kernel_rfl) (good_E_ref13_Part _)) AllP.nil) (To.thenN (Wp.seq (Wp.block ?_)))))))
 obtain ⟨o1,ho1,h⟩:=bind_of h
 refine nw [0,1,2,9] [18] [(18,1009)] [0,1,2,9] [1009] [(0,.str a0),(1,vi a1),(2,vi a2),(9,.row 1009)] [(1009,117,[rc33 []])] (Wp.loopL (ok_ref13_parts_l1 R_ref13_parts hR_ref13_parts n a0 a2 n a1 ([]:List (S_ref13_Part)) o1 ho1 ?_))
 rcases o1 with o1 | o1
 ·replace h:=sum_l h
  refine To.blockX (To.thenN (Wp.seq (rg [6,7,8] [1009] [(6,.row 1009),(7,vi o1.1),(8,vi 0)] [(1009,117,[rc33 o1.2])] (To.thenN (Wp.ret (To.pre (St.settle (ks:=[1009]) (kk:=[6,7,8]) (kl:=[1009]) (K':=[(6,.row 1009),(7,vi o1.1),(8,vi 0)]) (L':=[(1009,117,[rc35 o1.2])]) (by kernel_rfl)) (To.pre (St.sealK [6] (K':=[(6,rs34 o1.2),(7,vi o1.1),(8,vi 0)]) (by kernel_rfl)) ?_)))))))
  cases h
  exact To.done hΓ (by kernel_rfl)
 ·replace h:=sum_r h
  refine To.blockR (To.thenR (kt [6,7,8] [1006] [(6,.row 1006),(7,vi o1.2.1),(8,vi o1.2.2)] [(1006,117,[rc33 o1.1])] (To.pre (St.settle (ks:=[1006]) (kk:=[6,7,8]) (kl:=[1006]) (K':=[(6,.row 1006),(7,vi o1.2.1),(8,vi o1.2.2)]) (L':=[(1006,117,[rc35 o1.1])]) (by kernel_rfl)) (To.pre (St.sealK [6] (K':=[(6,rs34 o1.1),(7,vi o1.2.1),(8,vi o1.2.2)]) (by kernel_rfl)) ?_))))
  cases h
  exact To.done hΓ (by kernel_rfl)
def ref13_parts:Nat → (List UInt8) → Int → Int → Option ((List (S_ref13_Part)) × Int × Int)
 | 0=>fun _ _ _=>none
 | n + 1=>ref13_parts_b (ref13_parts n) n
theorem ok_ref13_parts (n:Nat):∀ (a0:List UInt8) (a1:Int) (a2:Int) (r:(List (S_ref13_Part)) × Int × Int),ref13_parts n a0 a1 a2 = some r → CallsX Tryz.prog 53 [.str a0,vi a1,vi a2] (.tup [rs34 r.1,vi r.2.1,vi r.2.2]):=by
 induction n with
 | zero=>intro a0 a1 a2 r h; cases h
 | succ n ih=>exact fun a0 a1 a2 r h=>ok_ref13_parts_b (ref13_parts n) ih n a0 a1 a2 r h
def ref13_Parse (n:Nat) (a0:List UInt8):Option ((List (S_ref13_Part)) × Int) :=
 (ref13_parts n a0 0 1).bind fun r1 =>
 if (r1.2.2 != 0) = true then (some ([],r1.2.2))
 else (some (r1.1,0))
theorem ok_ref13_Parse (n:Nat) (a0:List UInt8) (r:(List (S_ref13_Part)) × Int) (h:ref13_Parse n a0 = some r):CallsX Tryz.prog 34 [.str a0] (.tup [rs34 r.1,vi r.2]):=by
 unfold ref13_Parse at h
 refine xo Tryz.f34 rfl fun F0 w0 _=>?_
 refine Wp.seq (rg [0] [] [(0,.str a0)] [] (To.thenN (Wp.seq ?_)))
 obtain ⟨r1,hr1,h⟩:=bind_of h
 refine rc [] 1 [4,6] [] [(4,rs34 r1.1),(6,vi r1.2.2)] [] (ok_ref13_parts n a0 0 1 _ hr1) (To.thenN (Wp.seq (Wp.seq (rg [4,6,14] [] [(4,rs34 r1.1),(6,vi r1.2.2),(14,vb (r1.2.2 != 0))] [] (To.thenN (cn h (fun h=>?_) (fun h=>?_)))))))
 ·refine Wp.seq (rg [2,3] [] [(2,.val (.slice none 0 0)),(3,vi r1.2.2)] [] (To.thenN (Wp.ret (To.thenR (To.weak (K':=[(2,rs34 []),(3,vi r1.2.2)]) (L':=[]) (.cons (.zero _ _) (.cons (.refl _) .nil)) .nil ?_)))))
  cases h
  exact To.done hΓ (by kernel_rfl)
 ·refine Wp.skip (To.thenN (Wp.seq (rg [2,3] [] [(2,rs34 r1.1),(3,vi 0)] [] (To.thenN (Wp.ret ?_)))))
  cases h
  exact To.done hΓ (by kernel_rfl)
def ref13_mark (n:Nat) (a0:Int):Option ((List UInt8)) :=
 if (bif (decide (a0 < 0)) then true else (decide (a0 > 7))) = true then (some [])
 else (if (decide (0 ≤ a0 ∧ a0 < (List.length ([[],[],[58,45],[45],[58,63],[63],[58,43],[43]]:List (List UInt8)):Int))) = true then (some (([[],[],[58,45],[45],[58,63],[63],[58,43],[43]])[Int.toNat a0]?.getD [])) else none)
theorem ok_ref13_mark (n:Nat) (a0:Int) (r:(List UInt8)) (h:ref13_mark n a0 = some r):CallsX Tryz.prog 124 [vi a0] (.str r):=by
 unfold ref13_mark at h
 refine xo Tryz.f124 rfl fun F0 w0 _=>?_
 refine Wp.seq (rg [0] [] [(0,vi a0)] [] (To.thenN (Wp.seq (rr [] [(0,ls ([[],[],[58,45],[45],[58,63],[63],[58,43],[43]]))] [] [0,3] [4] [(0,vi a0),(3,.row 4)] [(4,9,[rc1 ([[],[],[58,45],[45],[58,63],[63],[58,43],[43]])])] [(MkOb 1 [.str [],.str [],.str [58,45],.str [45],.str [58,63],.str [63],.str [58,43],.str [43]] 8 (ls ([[],[],[58,45],[45],[58,63],[63],[58,43],[43]])) ∧ GoodR (ls ([[],[],[58,45],[45],[58,63],[63],[58,43],[43]])))] (AllP.cons (mkOb (by kernel_rfl) rfl (by kernel_rfl) (good_E_string _)) AllP.nil) (To.thenN (Wp.seq (Wp.seq (rg [0,3,10] [4] [(0,vi a0),(3,.row 4),(10,vb (bif (decide (a0 < 0)) then true else (decide (a0 > 7))))] [(4,9,[rc1 ([[],[],[58,45],[45],[58,63],[63],[58,43],[43]])])] (To.thenN (cn h (fun h=>?_) (fun h=>?_)))))))))))
 ·refine Wp.seq (rg [2] [] [(2,.str [])] [] (To.thenN (Wp.ret (To.thenR ?_))))
  cases h
  exact To.done hΓ (by kernel_rfl)
 ·refine Wp.skip (To.thenN (Wp.seq ?_))
  obtain ⟨hc1,h⟩:=chk_of h
  refine r0 [2] [] [(2,.str (([[],[],[58,45],[45],[58,63],[63],[58,43],[43]])[Int.toNat a0]?.getD []))] [] (AllP.cons hc1 (AllP.cons hc1 AllP.nil)) (To.thenN (Wp.ret ?_))
  cases h
  exact To.done hΓ (by kernel_rfl)
def ref13_Text_j5 (R_ref13_Text:(List (S_ref13_Part)) → Option ((List UInt8))) (n:Nat) (v0:List (S_ref13_Part)) (v3:List UInt8) (v4:Int) (v6:Int) (v31:Bool) (b5:S_ref13_Part):Option ((List UInt8)) :=
 if v31 = true then (if (decide (((List.length v3 + List.length ([36]:List UInt8):Nat):Int) ≤ 9223372036854775807)) = true then (some (v3 ++ [36])) else none)
 else some v3
abbrev hR39 (R_ref13_Text:(List (S_ref13_Part)) → Option ((List UInt8))):Prop:=∀ (a0:List (S_ref13_Part)) (r:(List UInt8)),R_ref13_Text a0 = some r → CallsX Tryz.prog 92 [rs34 a0] (.str r)
theorem ok_ref13_Text_j5 (R_ref13_Text:(List (S_ref13_Part)) → Option ((List UInt8))) (hR_ref13_Text:hR39 R_ref13_Text) (n:Nat) (v0:List (S_ref13_Part)) (v3:List UInt8) (v4:Int) (v6:Int) (v31:Bool) (b5:S_ref13_Part) (o:(List UInt8)) (h:ref13_Text_j5 R_ref13_Text n v0 v3 v4 v6 v31 b5 = some o) {F0:Fz} {w0:Pt Tryz.prog} {Q:Exit → Act → World → Prop} (hQ:To 63 F0 w0 [(0,rs34 v0),(3,.str o),(4,vi v4),(5,.own 5 0),(6,vi v6)] [(5,117,qc38 b5)] .normal Q):Wp Tryz.prog 63 F0 w0 [(0,rs34 v0),(3,.str v3),(4,vi v4),(5,.own 5 0),(6,vi v6),(31,vb v31)] [(5,117,qc38 b5)] (cB (cA (cI (cA (cB (cI (cI (cB (cT (cB (cB (cI (cA (cB (cI (cI (cB (cA (cB (cB (cF Tryz.f92))))))))))))))))))))) Q:=by
 unfold ref13_Text_j5 at h
 refine cn h (fun h=>?_) (fun h=>?_)
 ·obtain ⟨hc1,h⟩:=chk_of h
  refine r0 [0,3,4,5,6] [5] [(0,rs34 v0),(3,.str (v3 ++ [36])),(4,vi v4),(5,.own 5 0),(6,vi v6)] [(5,117,qc38 b5)] (AllP.cons hc1 AllP.nil) (kt [0,3,4,5,6] [5] [(0,rs34 v0),(3,.str (v3 ++ [36])),(4,vi v4),(5,.own 5 0),(6,vi v6)] [(5,117,qc38 b5)] ?_)
  cases h
  exact hQ
 ·refine Wp.skip (kt [0,3,4,5,6] [5] [(0,rs34 v0),(3,.str v3),(4,vi v4),(5,.own 5 0),(6,vi v6)] [(5,117,qc38 b5)] ?_)
  cases h
  exact hQ
def ref13_Text_j4 (R_ref13_Text:(List (S_ref13_Part)) → Option ((List UInt8))) (n:Nat) (v0:List (S_ref13_Part)) (v3:List UInt8) (v4:Int) (v6:Int) (b5:S_ref13_Part):Option ((List UInt8)) :=
 if (decide (0 ≤ v6 ∧ v6 < (List.length b5.f_Text:Int))) = true then ((ref13_Text_j5 R_ref13_Text n v0 v3 v4 v6 ((((b5.f_Text)[Int.toNat v6]?.getD 0).toNat:Int) == 36) b5).bind fun o1 =>
 if (decide (0 ≤ (IntKind.wrap .i64 (v6 + 1)) ∧ (IntKind.wrap .i64 (v6 + 1)) ≤ (List.length b5.f_Text:Int))) = true then (if (decide (0 ≤ v6 ∧ v6 ≤ (IntKind.wrap .i64 (v6 + 1)))) = true then (if (decide (((List.length o1 + List.length (List.take (Int.toNat (IntKind.wrap .i64 (v6 + 1)) - Int.toNat v6) (List.drop (Int.toNat v6) b5.f_Text)):Nat):Int) ≤ 9223372036854775807)) = true then (some (o1 ++ (List.take (Int.toNat (IntKind.wrap .i64 (v6 + 1)) - Int.toNat v6) (List.drop (Int.toNat v6) b5.f_Text)))) else none) else none) else none) else none
abbrev ex43 (x0:Int) (x1:S_ref13_Part):=(List.take (Int.toNat (IntKind.wrap .i64 (x0 + 1)) - Int.toNat x0) (List.drop (Int.toNat x0) x1.f_Text))
theorem ok_ref13_Text_j4 (R_ref13_Text:(List (S_ref13_Part)) → Option ((List UInt8))) (hR_ref13_Text:hR39 R_ref13_Text) (n:Nat) (v0:List (S_ref13_Part)) (v3:List UInt8) (v4:Int) (v6:Int) (b5:S_ref13_Part) (o:(List UInt8)) (h:ref13_Text_j4 R_ref13_Text n v0 v3 v4 v6 b5 = some o) {F0:Fz} {w0:Pt Tryz.prog} {Q:Exit → Act → World → Prop} (hQ:To 63 F0 w0 [(0,rs34 v0),(3,.str o),(4,vi v4),(5,.own 5 0),(6,vi v6)] [(5,117,qc38 b5)] .normal Q):Wp Tryz.prog 63 F0 w0 [(0,rs34 v0),(3,.str v3),(4,vi v4),(5,.own 5 0),(6,vi v6)] [(5,117,qc38 b5)] (cA (cB (cI (cI (cB (cT (cB (cB (cI (cA (cB (cI (cI (cB (cA (cB (cB (cF Tryz.f92)))))))))))))))))) Q:=by
 unfold ref13_Text_j4 at h
 refine Wp.block (Wp.seq (Wp.seq ?_))
 obtain ⟨hc5,h⟩:=chk_of h
 refine r0 [0,3,4,5,6,31] [5] [(0,rs34 v0),(3,.str v3),(4,vi v4),(5,.own 5 0),(6,vi v6),(31,vb ((((b5.f_Text)[Int.toNat v6]?.getD 0).toNat:Int) == 36))] [(5,117,qc38 b5)] (AllP.cons hc5 AllP.nil) (To.thenN ?_)
 obtain ⟨o1,ho1,h⟩:=bind_of h
 refine kw [0,3,4,5,6,31] [5] [(0,rs34 v0),(3,.str v3),(4,vi v4),(5,.own 5 0),(6,vi v6),(31,vb ((((b5.f_Text)[Int.toNat v6]?.getD 0).toNat:Int) == 36))] [(5,117,qc38 b5)] (ok_ref13_Text_j5 R_ref13_Text hR_ref13_Text n v0 v3 v4 v6 ((((b5.f_Text)[Int.toNat v6]?.getD 0).toNat:Int) == 36) b5 o1 ho1 (To.thenN ?_))
 obtain ⟨hc2,h⟩:=chk_of h
 obtain ⟨hc3,h⟩:=chk_of h
 obtain ⟨hc4,h⟩:=chk_of h
 refine r0 [0,3,4,5,6] [5] [(0,rs34 v0),(3,.str (o1 ++ (ex43 v6 b5))),(4,vi v4),(5,.own 5 0),(6,vi v6)] [(5,117,qc38 b5)] (AllP.cons hc2 (AllP.cons hc3 (AllP.cons hc4 AllP.nil))) (To.blockN ?_)
 cases h
 exact hQ
def ref13_Text_l3 (R_ref13_Text:(List (S_ref13_Part)) → Option ((List UInt8))) (n:Nat) (v0:List (S_ref13_Part)) (v4:Int) (b5:S_ref13_Part):Nat → (List UInt8) → Int → Option ((List UInt8))
 | 0,_,_=>none
 | k + 1,v3,v6=>if (decide (v6 < (List.length b5.f_Text:Int))) = true then ((ref13_Text_j4 R_ref13_Text n v0 v3 v4 v6 b5).bind fun o1 =>
 ref13_Text_l3 R_ref13_Text n v0 v4 b5 k o1 (IntKind.wrap .i64 (v6 + 1)))
 else some v3
theorem ok_ref13_Text_l3 (R_ref13_Text:(List (S_ref13_Part)) → Option ((List UInt8))) (hR_ref13_Text:hR39 R_ref13_Text) (n:Nat) (v0:List (S_ref13_Part)) (v4:Int) (b5:S_ref13_Part) {F0:Fz} {w0:Pt Tryz.prog} {Q:Exit → Act → World → Prop} (k:Nat):∀ (v3:List UInt8) (v6:Int) (o:(List UInt8)),ref13_Text_l3 R_ref13_Text n v0 v4 b5 k v3 v6 = some o → To 63 F0 w0 [(0,rs34 v0),(3,.str o),(4,vi v4)] [] (.exit 2) Q → WL Tryz.prog 63 F0 w0 [(0,rs34 v0),(3,.str v3),(4,vi v4),(5,.own 5 0),(6,vi v6)] [(5,117,qc38 b5)] (cI (cI (cB (cT (cB (cB (cI (cA (cB (cI (cI (cB (cA (cB (cB (cF Tryz.f92)))))))))))))))) Q:=by
 induction k with
 | zero=>intro v3 v6 o h; cases h
 | succ k ih =>
  intro v3 v6 o h hQ
  rw [ref13_Text_l3] at h
  refine WL.round (Wp.seq (Wp.seq (rg [0,3,4,5,6,24] [5] [(0,rs34 v0),(3,.str v3),(4,vi v4),(5,.own 5 0),(6,vi v6),(24,vb (decide (v6 < (List.length b5.f_Text:Int))))] [(5,117,qc38 b5)] (To.thenN (cn h (fun h=>?_) (fun h=>?_))))))
  ·refine Wp.skip (To.thenN (Wp.seq ?_))
   obtain ⟨o1,ho1,h⟩:=bind_of h
   refine kw [0,3,4,5,6] [5] [(0,rs34 v0),(3,.str v3),(4,vi v4),(5,.own 5 0),(6,vi v6)] [(5,117,qc38 b5)] (ok_ref13_Text_j4 R_ref13_Text hR_ref13_Text n v0 v3 v4 v6 b5 o1 ho1 (To.thenN (rg [0,3,4,5,6] [5] [(0,rs34 v0),(3,.str o1),(4,vi v4),(5,.own 5 0),(ex34 v6)] [(5,117,qc38 b5)] (kt [0,3,4,5,6] [5] [(0,rs34 v0),(3,.str o1),(4,vi v4),(5,.own 5 0),(ex34 v6)] [(5,117,qc38 b5)] (To.again ?_)))))
   exact ih o1 (IntKind.wrap .i64 (v6 + 1)) _ h hQ
  ·refine Wp.exit (To.thenX (To.thenX (kt [0,3,4] [] [(0,rs34 v0),(3,.str v3),(4,vi v4)] [] ?_)))
   cases h
   exact hQ
def ref13_Text_j6 (R_ref13_Text:(List (S_ref13_Part)) → Option ((List UInt8))) (n:Nat) (v0:List (S_ref13_Part)) (v3:List UInt8) (v4:Int) (v54:Bool) (b5:S_ref13_Part):Option ((List UInt8)) :=
 if v54 = true then ((R_ref13_Text b5.f_Sub).bind fun r3 =>
 if (decide (((List.length v3 + List.length r3:Nat):Int) ≤ 9223372036854775807)) = true then (some (v3 ++ r3)) else none)
 else some v3
theorem ok_ref13_Text_j6 (R_ref13_Text:(List (S_ref13_Part)) → Option ((List UInt8))) (hR_ref13_Text:hR39 R_ref13_Text) (n:Nat) (v0:List (S_ref13_Part)) (v3:List UInt8) (v4:Int) (v54:Bool) (b5:S_ref13_Part) (o:(List UInt8)) (h:ref13_Text_j6 R_ref13_Text n v0 v3 v4 v54 b5 = some o) {F0:Fz} {w0:Pt Tryz.prog} {Q:Exit → Act → World → Prop} (hQ:To 63 F0 w0 [(0,rs34 v0),(3,.str o),(4,vi v4)] [] .normal Q):Wp Tryz.prog 63 F0 w0 [(0,rs34 v0),(3,.str v3),(4,vi v4),(5,.own 5 0),(54,vb v54)] [(5,117,qc38 b5)] (cB (cA (cB (cE (cB (cB (cI (cA (cB (cI (cI (cB (cA (cB (cB (cF Tryz.f92)))))))))))))))) Q:=by
 unfold ref13_Text_j6 at h
 refine cn h (fun h=>?_) (fun h=>?_)
 ·obtain ⟨r3,hr3,h⟩:=bind_of h
  obtain ⟨hc4,h⟩:=chk_of h
  refine rr [] [(3,.str r3)] [] [0,3,4] [] [(0,rs34 v0),(3,.str (v3 ++ r3)),(4,vi v4)] [] [(true = true → CX Tryz.prog 92 [rs34 b5.f_Sub] (.str r3)),_] (AllP.cons (fun _=>cx (hR_ref13_Text b5.f_Sub _ hr3)) (AllP.cons hc4 AllP.nil)) (kt [0,3,4] [] [(0,rs34 v0),(3,.str (v3 ++ r3)),(4,vi v4)] [] ?_)
  cases h
  exact hQ
 ·refine Wp.skip (kt [0,3,4] [] [(0,rs34 v0),(3,.str v3),(4,vi v4)] [] ?_)
  cases h
  exact hQ
def ref13_Text_j2 (R_ref13_Text:(List (S_ref13_Part)) → Option ((List UInt8))) (n:Nat) (v0:List (S_ref13_Part)) (v3:List UInt8) (v4:Int):Option ((List UInt8)) :=
 if (decide (0 ≤ v4 ∧ v4 < (List.length v0:Int))) = true then (if ((((v0)[Int.toNat v4]?.getD (S_ref13_Part.mk [] [] 0 [])).f_Op) == 0) = true then ((ref13_Text_l3 R_ref13_Text n v0 v4 ((v0)[Int.toNat v4]?.getD (S_ref13_Part.mk [] [] 0 [])) n v3 0).bind fun o1 =>
 some o1)
 else (if (decide (((List.length v3 + List.length ([36]:List UInt8):Nat):Int) ≤ 9223372036854775807)) = true then (if (decide (((List.length (v3 ++ [36]) + List.length ([123]:List UInt8):Nat):Int) ≤ 9223372036854775807)) = true then (if (decide (((List.length ((v3 ++ [36]) ++ [123]) + List.length (((v0)[Int.toNat v4]?.getD (S_ref13_Part.mk [] [] 0 [])).f_Name):Nat):Int) ≤ 9223372036854775807)) = true then ((ref13_mark n (((v0)[Int.toNat v4]?.getD (S_ref13_Part.mk [] [] 0 [])).f_Op)).bind fun r2 =>
 if (decide (((List.length (((v3 ++ [36]) ++ [123]) ++ (((v0)[Int.toNat v4]?.getD (S_ref13_Part.mk [] [] 0 [])).f_Name)) + List.length r2:Nat):Int) ≤ 9223372036854775807)) = true then ((ref13_Text_j6 R_ref13_Text n v0 ((((v3 ++ [36]) ++ [123]) ++ (((v0)[Int.toNat v4]?.getD (S_ref13_Part.mk [] [] 0 [])).f_Name)) ++ r2) v4 (decide ((((v0)[Int.toNat v4]?.getD (S_ref13_Part.mk [] [] 0 [])).f_Op) > 1)) ((v0)[Int.toNat v4]?.getD (S_ref13_Part.mk [] [] 0 []))).bind fun o3 =>
 if (decide (((List.length o3 + List.length ([125]:List UInt8):Nat):Int) ≤ 9223372036854775807)) = true then (some (o3 ++ [125])) else none) else none) else none) else none) else none)) else none
end Go.Proofs.YtibgdilkodjojaaGreatDoor.M
