import Derived.Test.YtaecmkldkljioaaGreatQM35g
set_option linter.all false
namespace Go.Proofs.YtaecmkldkljioaaGreat.M
open Go.RowKit Go.Proofs.YtaecmkldkljioaaGreat.RX
set_option maxRecDepth 100000
theorem ok_ref35_Same_l1 (n:Nat) (v0:List (S_host_Event)) (v1:List (S_host_Event)) {F0:Fz} {w0:Pt Tryz.prog} {Q:Exit → Act → World → Prop} (k:Nat):∀ (v5:Int) (o:Sum (Unit) (Bool)),ref35_Same_l1 n v0 v1 k v5 = some o → (Sum.elim (fun s=>To 26 F0 w0 [] [] (.exit 0) Q) (fun s=>To 26 F0 w0 [(4,vb s)] [] .ret Q)) o → WL Tryz.prog 26 F0 w0 [(0,rs49 v0),(1,rs49 v1),(5,vi v5)] [] (cI (cI (cB (cA (cB (cB (cF Tryz.f39))))))) Q:=by
 induction k with
 | zero=>intro v5 o h; cases h
 | succ k ih =>
  intro v5 o h hQ
  rw [ref35_Same_l1] at h
  refine WL.round (Wp.seq (Wp.seq (rg [0,1,5,14] [] [(0,rs49 v0),(1,rs49 v1),(5,vi v5),(14,vb (ex52 v5 v0))] [] (To.thenN (cn h (fun h=>?_) (fun h=>?_))))))
  ·refine Wp.skip (To.thenN (Wp.seq (Wp.block (Wp.seq ?_))))
   obtain ⟨hc2,h⟩:=chk_of h
   obtain ⟨hc3,h⟩:=chk_of h
   obtain ⟨x1,hx1,h⟩:=lett_of h
   refine Wp.regionD hm hΓ [] [0,1,5,25] [] (K':=[(0,rs49 v0),(1,rs49 v1),(5,vi v5),(25,vb (!(((ex50 v0 v5).f_At == (ex50 v1 v5).f_At) && (((ex50 v0 v5).f_Kind == (ex50 v1 v5).f_Kind) && (((ex50 v0 v5).f_Id == (ex50 v1 v5).f_Id) && ((ex50 v0 v5).f_What == (ex50 v1 v5).f_What))))))]) (L':=[]) (ob:=[(decide (ex51 v5 v0)) = true,(decide (ex51 v5 v1)) = true]) (by kernel_rfl) (AllP.cons hc2 (AllP.cons hc3 AllP.nil)) (To.eq (K':=[(0,rs49 v0),(1,rs49 v1),(5,vi v5),(25,vb x1)]) (L':=[]) (by cases hx1; rfl) (by cases hx1; rfl) (To.thenN (cn h (fun h=>?_) (fun h=>?_))))
   ·refine Wp.seq (rg [4] [] [(4,vb false)] [] (To.thenN (Wp.ret (To.blockR (To.thenR (To.thenR ?_))))))
    cases h
    exact hQ
   ·refine Wp.skip (To.blockN (To.thenN (rg [0,1,5] [] [(0,rs49 v0),(1,rs49 v1),(ex2 v5)] [] (kt [0,1,5] [] [(0,rs49 v0),(1,rs49 v1),(ex2 v5)] [] (To.again ?_)))))
    exact ih (IntKind.wrap .i64 (v5 + 1)) _ h hQ
  ·refine Wp.exit (To.thenX (To.thenX (kt [] [] [] [] ?_)))
   cases h
   exact hQ
def ref35_Same (n:Nat) (a0:List (S_host_Event)) (a1:List (S_host_Event)):Option (Bool) :=
 if ((List.length a0:Int) != (List.length a1:Int)) = true then some false
 else ((ref35_Same_l1 n a0 a1 n 0).bind fun o1 =>
 (Sum.elim (fun o1=>some true) (fun o1=>some o1)) o1)
theorem ok_ref35_Same (n:Nat) (a0:List (S_host_Event)) (a1:List (S_host_Event)) (r:Bool) (h:ref35_Same n a0 a1 = some r):CallsX Tryz.prog 39 [rs49 a0,rs49 a1] (vb r):=by
 unfold ref35_Same at h
 refine xo Tryz.f39 rfl fun F0 w0 _=>?_
 refine Wp.seq (rg [0,1] [] [(0,rs49 a0),(1,rs49 a1)] [] (To.thenN (Wp.seq (Wp.seq (rg [0,1,10] [] [(0,rs49 a0),(1,rs49 a1),(10,vb ((List.length a0:Int) != (List.length a1:Int)))] [] (To.thenN (cn h (fun h=>?_) (fun h=>?_))))))))
 ·refine Wp.seq (rg [4] [] [(4,vb false)] [] (To.thenN (Wp.ret (To.thenR ?_))))
  cases h
  exact To.done hΓ (by kernel_rfl)
 ·refine Wp.skip (To.thenN (Wp.seq (Wp.seq (rg [0,1,5] [] [(0,rs49 a0),(1,rs49 a1),(5,vi 0)] [] (To.thenN (Wp.block ?_))))))
  obtain ⟨o1,ho1,h⟩:=bind_of h
  refine kw [0,1,5] [] [(0,rs49 a0),(1,rs49 a1),(5,vi 0)] [] (Wp.loopL (ok_ref35_Same_l1 n a0 a1 n 0 o1 ho1 ?_))
  rcases o1 with o1 | o1
  ·replace h:=sum_l h
   refine To.blockX (To.thenN (Wp.seq (rg [4] [] [(4,vb true)] [] (To.thenN (Wp.ret ?_)))))
   cases h
   exact To.done hΓ (by kernel_rfl)
  ·replace h:=sum_r h
   refine To.blockR (To.thenR ?_)
   cases h
   exact To.done hΓ (by kernel_rfl)
def ref31_Due (a0:Int) (a1:Int) (a2:Int) (a3:Int) (a4:Bool):Bool :=
 if a4 = true then false
 else (if (bif (a0 == 1) then true else (a0 == 3)) = true then true
 else (if (bif (a0 != 2) then true else (a2 == 0)) = true then false
 else ((bif (a1 == 0) then true else (decide (a3 < a1))))))
theorem ok_ref31_Due (a0:Int) (a1:Int) (a2:Int) (a3:Int) (a4:Bool) (r:Bool) (h:ref31_Due a0 a1 a2 a3 a4 = r):CallsX Tryz.prog 134 [vi a0,vi a1,vi a2,vi a3,vb a4] (vb r):=by
 unfold ref31_Due at h
 refine xo Tryz.f134 rfl fun F0 w0 _=>?_
 refine Wp.seq (rg [0,1,2,3,4] [] [(0,vi a0),(1,vi a1),(2,vi a2),(3,vi a3),(4,vb a4)] [] (To.thenN (Wp.seq (Wp.seq (rg [0,1,2,3,11] [] [(0,vi a0),(1,vi a1),(2,vi a2),(3,vi a3),(11,vb a4)] [] (To.thenN (cn h (fun h=>?_) (fun h=>?_))))))))
 ·refine Wp.seq (rg [10] [] [(10,vb false)] [] (To.thenN (Wp.ret (To.thenR ?_))))
  cases h
  exact To.done hΓ (by kernel_rfl)
 ·refine Wp.skip (To.thenN (Wp.seq (Wp.seq (rg [0,1,2,3,17] [] [(0,vi a0),(1,vi a1),(2,vi a2),(3,vi a3),(17,vb (bif (a0 == 1) then true else (a0 == 3)))] [] (To.thenN (cn h (fun h=>?_) (fun h=>?_)))))))
  ·refine Wp.seq (rg [10] [] [(10,vb true)] [] (To.thenN (Wp.ret (To.thenR ?_))))
   cases h
   exact To.done hΓ (by kernel_rfl)
  ·refine Wp.skip (To.thenN (Wp.seq (Wp.seq (rg [1,3,23] [] [(1,vi a1),(3,vi a3),(23,vb (bif (a0 != 2) then true else (a2 == 0)))] [] (To.thenN (cn h (fun h=>?_) (fun h=>?_)))))))
   ·refine Wp.seq (rg [10] [] [(10,vb false)] [] (To.thenN (Wp.ret (To.thenR ?_))))
    cases h
    exact To.done hΓ (by kernel_rfl)
   ·refine Wp.skip (To.thenN (Wp.seq (rg [10] [] [(10,vb (bif (a1 == 0) then true else (decide (a3 < a1))))] [] (To.thenN (Wp.ret ?_)))))
    cases h
    exact To.done hΓ (by kernel_rfl)
def ref31_Wait_l1 (n:Nat) (v0:Int):Nat → Int → Int → Option (Int)
 | 0,_,_=>none
 | k + 1,v3,v4=>if (bif (decide (v4 < v0)) then (decide (v3 < 60000)) else false) = true then (ref31_Wait_l1 n v0 k (IntKind.wrap .i64 (v3 * 2)) (IntKind.wrap .i64 (v4 + 1)))
 else some v3
theorem ok_ref31_Wait_l1 (n:Nat) (v0:Int) {F0:Fz} {w0:Pt Tryz.prog} {Q:Exit → Act → World → Prop} (k:Nat):∀ (v3:Int) (v4:Int) (o:Int),ref31_Wait_l1 n v0 k v3 v4 = some o → To 21 F0 w0 [(3,vi o)] [] (.exit 0) Q → WL Tryz.prog 21 F0 w0 [(0,vi v0),(3,vi v3),(4,vi v4)] [] (cI (cI (cB (cA (cB (cB (cB (cF Tryz.f135)))))))) Q:=by
 induction k with
 | zero=>intro v3 v4 o h; cases h
 | succ k ih =>
  intro v3 v4 o h hQ
  rw [ref31_Wait_l1] at h
  refine WL.round (Wp.seq (Wp.seq (rg [0,3,4,13] [] [(0,vi v0),(3,vi v3),(4,vi v4),(13,vb (bif (decide (v4 < v0)) then (decide (v3 < 60000)) else false))] [] (To.thenN (cn h (fun h=>?_) (fun h=>?_))))))
  ·refine Wp.skip (To.thenN (Wp.seq (Wp.block (rg [0,3,4] [] [(0,vi v0),(3,vi (IntKind.wrap .i64 (v3 * 2))),(4,vi v4)] [] (To.blockN (To.thenN (rg [0,3,4] [] [(0,vi v0),(3,vi (IntKind.wrap .i64 (v3 * 2))),(ex41 v4)] [] (kt [0,3,4] [] [(0,vi v0),(3,vi (IntKind.wrap .i64 (v3 * 2))),(ex41 v4)] [] (To.again ?_)))))))))
   exact ih (IntKind.wrap .i64 (v3 * 2)) (IntKind.wrap .i64 (v4 + 1)) _ h hQ
  ·refine Wp.exit (To.thenX (To.thenX (kt [3] [] [(3,vi v3)] [] ?_)))
   cases h
   exact hQ
def ref31_Wait (n:Nat) (a0:Int):Option (Int) :=
 if (decide (a0 < 1)) = true then some 0
 else ((ref31_Wait_l1 n a0 n 100 1).bind fun o1 =>
 if (decide (o1 > 60000)) = true then some 60000
 else some o1)
theorem ok_ref31_Wait (n:Nat) (a0:Int) (r:Int) (h:ref31_Wait n a0 = some r):CallsX Tryz.prog 135 [vi a0] (vi r):=by
 unfold ref31_Wait at h
 refine xo Tryz.f135 rfl fun F0 w0 _=>?_
 refine Wp.seq (rg [0] [] [(0,vi a0)] [] (To.thenN (Wp.seq (Wp.seq (rg [0,6] [] [(0,vi a0),(6,vb (decide (a0 < 1)))] [] (To.thenN (cn h (fun h=>?_) (fun h=>?_))))))))
 ·refine Wp.seq (rg [2] [] [(2,vi 0)] [] (To.thenN (Wp.ret (To.thenR ?_))))
  cases h
  exact To.done hΓ (by kernel_rfl)
 ·refine Wp.skip (To.thenN (Wp.seq (rg [0,3] [] [(0,vi a0),(3,vi 100)] [] (To.thenN (Wp.seq (Wp.seq (rg [0,3,4] [] [(0,vi a0),(3,vi 100),(4,vi 1)] [] (To.thenN (Wp.block ?_)))))))))
  obtain ⟨o1,ho1,h⟩:=bind_of h
  refine kw [0,3,4] [] [(0,vi a0),(3,vi 100),(4,vi 1)] [] (Wp.loopL (ok_ref31_Wait_l1 n a0 n 100 1 o1 ho1 (To.blockX (To.thenN (Wp.seq (Wp.seq (rg [3,19] [] [(3,vi o1),(19,vb (decide (o1 > 60000)))] [] (To.thenN (cn h (fun h=>?_) (fun h=>?_))))))))))
  ·refine Wp.seq (rg [2] [] [(2,vi 60000)] [] (To.thenN (Wp.ret (To.thenR ?_))))
   cases h
   exact To.done hΓ (by kernel_rfl)
  ·refine Wp.skip (To.thenN (Wp.seq (rg [2] [] [(2,vi o1)] [] (To.thenN (Wp.ret ?_)))))
   cases h
   exact To.done hΓ (by kernel_rfl)
def ref32_Exit_j1 (n:Nat) (v1:Int) (v25:Bool) (b3:S_ref32_Box) (b6:S_ref32_Box):Option (S_ref32_Box) :=
 if v25 = true then ((ref31_Wait n (IntKind.wrap .i64 (b3.f_Done + 1))).bind fun r2 =>
 some (S_ref32_Box.mk b3.f_Spec b3.f_Id b3.f_State b3.f_Code b3.f_Runs b3.f_Done (IntKind.wrap .i64 (v1 + r2)) b3.f_ByHand b3.f_Sick b3.f_Probe))
 else some b3
theorem ok_ref32_Exit_j1 (n:Nat) (v1:Int) (v25:Bool) (b3:S_ref32_Box) (b6:S_ref32_Box) (o:S_ref32_Box) (h:ref32_Exit_j1 n v1 v25 b3 b6 = some o) {F0:Fz} {w0:Pt Tryz.prog} {Q:Exit → Act → World → Prop} (hQ:To 34 F0 w0 [(3,.own 3 0),(6,.own 6 0)] [(3,132,qc21 o),(6,132,(E_ref32_Box b6))] .normal Q):Wp Tryz.prog 34 F0 w0 [(1,vi v1),(3,.own 3 0),(6,.own 6 0),(25,vb v25)] [(3,132,(E_ref32_Box b3)),(6,132,(E_ref32_Box b6))] (cB (cA (cB (cB (cB (cB (cB (cF Tryz.f109)))))))) Q:=by
 unfold ref32_Exit_j1 at h
 refine cn h (fun h=>?_) (fun h=>?_)
 ·obtain ⟨r2,hr2,h⟩:=bind_of h
  refine rc [] 4 [3,6] [3,6] [(3,.own 3 0),(6,.own 6 0)] [(3,132,(List.set (E_ref32_Box b3) 18 (vi (IntKind.wrap .i64 (v1 + r2))))),(6,132,(E_ref32_Box b6))] (ok_ref31_Wait n (ex49 b3) _ hr2) (kt [3,6] [3,6] [(3,.own 3 0),(6,.own 6 0)] [(3,132,(List.set (E_ref32_Box b3) 18 (vi (IntKind.wrap .i64 (v1 + r2))))),(6,132,(E_ref32_Box b6))] ?_)
  cases h
  exact hQ
 ·refine Wp.skip (kt [3,6] [3,6] [(3,.own 3 0),(6,.own 6 0)] [(3,132,(E_ref32_Box b3)),(6,132,(E_ref32_Box b6))] ?_)
  cases h
  exact hQ
def ref32_Exit (n:Nat) (a0:S_ref32_Box) (a1:Int) (a2:Int):Option (S_ref32_Box × Int) :=
 if (a0.f_State != 2) = true then (some (a0,13))
 else (lett (ref31_Due a0.f_Spec.f_Restart a0.f_Spec.f_Tries a2 a0.f_Done false) fun r1 =>
 (ref32_Exit_j1 n a1 r1 (S_ref32_Box.mk a0.f_Spec a0.f_Id 3 a2 a0.f_Runs a0.f_Done (-1) a0.f_ByHand a0.f_Sick a0.f_Probe) (S_ref32_Box.mk (S_api_Spec.mk [] [] [] 0 [] [] [] (S_api_Check.mk [] 0 0 0) 0 0) 0 0 0 0 0 0 false false (S_probe_State.mk 0 0 0 0))).bind fun o2 =>
 some (o2,0))
abbrev ex53 (x0:S_ref32_Box) (x1:Int):Nat × Nat × List D:=(3,132,(List.set (List.set (List.set (E_ref32_Box x0) 14 (vi 3)) 15 (vi x1)) 18 (vi (-1))))
theorem ok_ref32_Exit (n:Nat) (a0:S_ref32_Box) (a1:Int) (a2:Int) (r:S_ref32_Box × Int) (h:ref32_Exit n a0 a1 a2 = some r):CallsX Tryz.prog 109 [.agg (qc21 a0),vi a1,vi a2] (.tup [.agg (qc21 r.1),vi r.2]):=by
 unfold ref32_Exit at h
 refine xo Tryz.f109 rfl fun F0 w0 _=>?_
 refine Wp.seq (rg [1,2,3,6] [3,6] [(1,vi a1),(2,vi a2),(3,.own 3 0),(6,.own 6 0)] [(3,132,(E_ref32_Box a0)),(6,132,[.str [],.str [],.str [],vi 0,.str [],.val (.slice none 0 0),.val (.slice none 0 0),.str [],vi 0,vi 0,vi 0,vi 0,vi 0,vi 0,vi 0,vi 0,vi 0,vi 0,vi 0,vb false,vb false,vi 0,vi 0,vi 0,vi 0])] (To.thenN (Wp.seq (Wp.seq (rg [1,2,3,6,10] [3,6] [(1,vi a1),(2,vi a2),(3,.own 3 0),(6,.own 6 0),(10,vb (a0.f_State != 2))] [(3,132,(E_ref32_Box a0)),(6,132,[.str [],.str [],.str [],vi 0,.str [],.val (.slice none 0 0),.val (.slice none 0 0),.str [],vi 0,vi 0,vi 0,vi 0,vi 0,vi 0,vi 0,vi 0,vi 0,vi 0,vi 0,vb false,vb false,vi 0,vi 0,vi 0,vi 0])] (To.thenN (cn h (fun h=>?_) (fun h=>?_))))))))
 ·refine Wp.seq (rg [6,7] [6] [(6,.own 6 0),(7,vi 13)] [(6,132,(E_ref32_Box a0))] (To.thenN (Wp.ret (To.thenR ?_))))
  cases h
  exact To.done hΓ (by kernel_rfl)
 ·refine Wp.skip (To.thenN (Wp.seq (rg [1,2,3,6] [3,6] [(1,vi a1),(2,vi a2),(3,.own 3 0),(6,.own 6 0)] [(3,132,(List.set (E_ref32_Box a0) 14 (vi 3))),(6,132,[.str [],.str [],.str [],vi 0,.str [],.val (.slice none 0 0),.val (.slice none 0 0),.str [],vi 0,vi 0,vi 0,vi 0,vi 0,vi 0,vi 0,vi 0,vi 0,vi 0,vi 0,vb false,vb false,vi 0,vi 0,vi 0,vi 0])] (To.thenN (Wp.seq (rg [1,2,3,6] [3,6] [(1,vi a1),(2,vi a2),(3,.own 3 0),(6,.own 6 0)] [(3,132,(List.set (List.set (E_ref32_Box a0) 14 (vi 3)) 15 (vi a2))),(6,132,[.str [],.str [],.str [],vi 0,.str [],.val (.slice none 0 0),.val (.slice none 0 0),.str [],vi 0,vi 0,vi 0,vi 0,vi 0,vi 0,vi 0,vi 0,vi 0,vi 0,vi 0,vb false,vb false,vi 0,vi 0,vi 0,vi 0])] (To.thenN (Wp.seq (rg [1,2,3,6] [3,6] [(1,vi a1),(2,vi a2),(3,.own 3 0),(6,.own 6 0)] [(ex53 a0 a2),(6,132,[.str [],.str [],.str [],vi 0,.str [],.val (.slice none 0 0),.val (.slice none 0 0),.str [],vi 0,vi 0,vi 0,vi 0,vi 0,vi 0,vi 0,vi 0,vi 0,vi 0,vi 0,vb false,vb false,vi 0,vi 0,vi 0,vi 0])] (To.thenN (Wp.seq (Wp.seq ?_))))))))))))
  obtain ⟨r1,hr1,h⟩:=lett_of h
  refine rc [] 9 [1,3,6,25] [3,6] [(1,vi a1),(3,.own 3 0),(6,.own 6 0),(25,vb r1)] [(ex53 a0 a2),(6,132,[.str [],.str [],.str [],vi 0,.str [],.val (.slice none 0 0),.val (.slice none 0 0),.str [],vi 0,vi 0,vi 0,vi 0,vi 0,vi 0,vi 0,vi 0,vi 0,vi 0,vi 0,vb false,vb false,vi 0,vi 0,vi 0,vi 0])] (ok_ref31_Due a0.f_Spec.f_Restart a0.f_Spec.f_Tries a2 a0.f_Done false _ hr1) (To.thenN ?_)
  obtain ⟨o2,ho2,h⟩:=bind_of h
  refine kw [1,3,6,25] [3,6] [(1,vi a1),(3,.own 3 0),(6,.own 6 0),(25,vb r1)] [(ex53 a0 a2),(6,132,[.str [],.str [],.str [],vi 0,.str [],.val (.slice none 0 0),.val (.slice none 0 0),.str [],vi 0,vi 0,vi 0,vi 0,vi 0,vi 0,vi 0,vi 0,vi 0,vi 0,vi 0,vb false,vb false,vi 0,vi 0,vi 0,vi 0])] (Wp.weak (K':=[(1,vi a1),(3,.own 3 0),(6,.own 6 0),(25,vb r1)]) (L':=[(ex53 a0 a2),(6,132,[.str [],.str [],.str [],vi 0,.str [],ls [],ls [],.str [],vi 0,vi 0,vi 0,vi 0,vi 0,vi 0,vi 0,vi 0,vi 0,vi 0,vi 0,vb false,vb false,vi 0,vi 0,vi 0,vi 0])]) (.cons (.refl _) (.cons (.refl _) (.cons (.refl _) (.cons (.refl _) .nil)))) (.cons (.cons (.refl _) (.cons (.refl _) (.cons (.refl _) (.cons (.refl _) (.cons (.refl _) (.cons (.refl _) (.cons (.refl _) (.cons (.refl _) (.cons (.refl _) (.cons (.refl _) (.cons (.refl _) (.cons (.refl _) (.cons (.refl _) (.cons (.refl _) (.cons (.refl _) (.cons (.refl _) (.cons (.refl _) (.cons (.refl _) (.cons (.refl _) (.cons (.refl _) (.cons (.refl _) (.cons (.refl _) (.cons (.refl _) (.cons (.refl _) (.cons (.refl _) .nil))))))))))))))))))))))))) (.cons (.cons (.refl _) (.cons (.refl _) (.cons (.refl _) (.cons (.refl _) (.cons (.refl _) (.cons (.zero _ _) (.cons (.zero _ _) (.cons (.refl _) (.cons (.refl _) (.cons (.refl _) (.cons (.refl _) (.cons (.refl _) (.cons (.refl _) (.cons (.refl _) (.cons (.refl _) (.cons (.refl _) (.cons (.refl _) (.cons (.refl _) (.cons (.refl _) (.cons (.refl _) (.cons (.refl _) (.cons (.refl _) (.cons (.refl _) (.cons (.refl _) (.cons (.refl _) .nil))))))))))))))))))))))))) .nil)) (ok_ref32_Exit_j1 n a1 r1 (S_ref32_Box.mk a0.f_Spec a0.f_Id 3 a2 a0.f_Runs a0.f_Done (-1) a0.f_ByHand a0.f_Sick a0.f_Probe) (S_ref32_Box.mk (S_api_Spec.mk [] [] [] 0 [] [] [] zx13 0 0) 0 0 0 0 0 0 false false zx14) o2 ho2 (To.thenN (Wp.seq (rg [6,7] [6] [(6,.own 6 0),(7,vi 0)] [(6,132,(E_ref32_Box o2))] (To.thenN (Wp.ret ?_)))))))
  cases h
  exact To.done hΓ (by kernel_rfl)
def ref35_Exit (n:Nat) (a0:S_ref35_Host) (a1:Int) (a2:Int):Option (S_ref35_Host × (List (S_host_Event))) :=
 (ref33_Find n a0.f_S a1).bind fun r1 =>
 if (decide (r1 < 0)) = true then (some (a0,[]))
 else (if (decide (0 ≤ r1 ∧ r1 < (List.length a0.f_S.f_Boxes:Int))) = true then ((ref32_Exit n ((a0.f_S.f_Boxes)[Int.toNat r1]?.getD Z_ref32_Box) a0.f_Now a2).bind fun r2 =>
 if (r2.2 != 0) = true then (some (a0,[]))
 else ((ref33_Put n a0.f_S r2.1).bind fun r3 =>
 some ((S_ref35_Host.mk r3 a0.f_Plan a0.f_Now),[(S_host_Event.mk a0.f_Now 1 a1 a2)]))) else none)
theorem ok_ref35_Exit (n:Nat) (a0:S_ref35_Host) (a1:Int) (a2:Int) (r:S_ref35_Host × (List (S_host_Event))) (h:ref35_Exit n a0 a1 a2 = some r):CallsX Tryz.prog 76 [.agg (qc47 a0),vi a1,vi a2] (.tup [.agg (qc47 r.1),rs49 r.2]):=by
 unfold ref35_Exit at h
 refine xo Tryz.f76 rfl fun F0 w0 _=>?_
 refine Wp.seq (rg [1,2,3,6] [3,6] [(1,vi a1),(2,vi a2),(3,.own 3 0),(6,.own 6 0)] [(3,89,(E_ref35_Host a0)),(6,89,[.val (.slice none 0 0),.val (.slice none 0 0),.val (.slice none 0 0),vi 0,.val (.slice none 0 0),vi 0,vi 0])] (To.thenN (Wp.seq ?_)))
 obtain ⟨r1,hr1,h⟩:=bind_of h
 refine rc [] 3 [1,2,3,6,8] [3,6] [(1,vi a1),(2,vi a2),(3,.own 3 0),(6,.own 6 0),(8,vi r1)] [(3,89,(E_ref35_Host a0)),(6,89,[.val (.slice none 0 0),.val (.slice none 0 0),.val (.slice none 0 0),vi 0,.val (.slice none 0 0),vi 0,vi 0])] (ok_ref33_Find n a0.f_S a1 _ hr1) (To.thenN (Wp.seq (Wp.seq (rg [1,2,3,6,8,16] [3,6] [(1,vi a1),(2,vi a2),(3,.own 3 0),(6,.own 6 0),(8,vi r1),(16,vb (decide (r1 < 0)))] [(3,89,(E_ref35_Host a0)),(6,89,[.val (.slice none 0 0),.val (.slice none 0 0),.val (.slice none 0 0),vi 0,.val (.slice none 0 0),vi 0,vi 0])] (To.thenN (cn h (fun h=>?_) (fun h=>?_)))))))
 ·refine Wp.seq (rg [6,7] [6] [(6,.own 6 0),(7,.val (.slice none 0 0))] [(6,89,(E_ref35_Host a0))] (To.thenN (Wp.ret (To.thenR (To.weak (K':=[(6,.own 6 0),(7,rs49 [])]) (L':=[(6,89,(E_ref35_Host a0))]) (.cons (.refl _) (.cons (.zero _ _) .nil)) (.cons (.cons (.refl _) (.cons (.refl _) (.cons (.refl _) (.cons (.refl _) (.cons (.refl _) (.cons (.refl _) (.cons (.refl _) .nil))))))) .nil) ?_)))))
  cases h
  exact To.done hΓ (by kernel_rfl)
 ·refine Wp.skip (To.thenN (Wp.seq ?_))
  obtain ⟨hc4,h⟩:=chk_of h
  obtain ⟨r2,hr2,h⟩:=bind_of h
  refine Wp.regionD hm hΓ [(9,.tup [.agg (qc21 r2.1),vi r2.2])] [1,2,3,6,9,10] [3,6,9] (K':=[(1,vi a1),(2,vi a2),(3,.own 3 0),(6,.own 6 0),(9,.own 9 0),(10,vi r2.2)]) (L':=[(3,89,(E_ref35_Host a0)),(6,89,[.val (.slice none 0 0),.val (.slice none 0 0),.val (.slice none 0 0),vi 0,.val (.slice none 0 0),vi 0,vi 0]),(9,132,(E_ref32_Box r2.1))]) (ob:=[(decide (0 ≤ r1 ∧ r1 < (ex46 a0))) = true,(true = true → CX Tryz.prog 109 [.agg [.str (((a0.f_S.f_Boxes)[Int.toNat r1]?.getD Z_ref32_Box).f_Spec.f_Name),.str (((a0.f_S.f_Boxes)[Int.toNat r1]?.getD Z_ref32_Box).f_Spec.f_Project),.str (((a0.f_S.f_Boxes)[Int.toNat r1]?.getD Z_ref32_Box).f_Spec.f_Service),vi (((a0.f_S.f_Boxes)[Int.toNat r1]?.getD Z_ref32_Box).f_Spec.f_Number),.str (((a0.f_S.f_Boxes)[Int.toNat r1]?.getD Z_ref32_Box).f_Spec.f_Hash),ls (((a0.f_S.f_Boxes)[Int.toNat r1]?.getD Z_ref32_Box).f_Spec.f_Nets),ls (((a0.f_S.f_Boxes)[Int.toNat r1]?.getD Z_ref32_Box).f_Spec.f_Vols),.str (((a0.f_S.f_Boxes)[Int.toNat r1]?.getD Z_ref32_Box).f_Spec.f_Health.f_Test),vi (((a0.f_S.f_Boxes)[Int.toNat r1]?.getD Z_ref32_Box).f_Spec.f_Health.f_Every),vi (((a0.f_S.f_Boxes)[Int.toNat r1]?.getD Z_ref32_Box).f_Spec.f_Health.f_Start),vi (((a0.f_S.f_Boxes)[Int.toNat r1]?.getD Z_ref32_Box).f_Spec.f_Health.f_Retries),vi (((a0.f_S.f_Boxes)[Int.toNat r1]?.getD Z_ref32_Box).f_Spec.f_Restart),vi (((a0.f_S.f_Boxes)[Int.toNat r1]?.getD Z_ref32_Box).f_Spec.f_Tries),vi (((a0.f_S.f_Boxes)[Int.toNat r1]?.getD Z_ref32_Box).f_Id),vi (((a0.f_S.f_Boxes)[Int.toNat r1]?.getD Z_ref32_Box).f_State),vi (((a0.f_S.f_Boxes)[Int.toNat r1]?.getD Z_ref32_Box).f_Code),vi (((a0.f_S.f_Boxes)[Int.toNat r1]?.getD Z_ref32_Box).f_Runs),vi (((a0.f_S.f_Boxes)[Int.toNat r1]?.getD Z_ref32_Box).f_Done),vi (((a0.f_S.f_Boxes)[Int.toNat r1]?.getD Z_ref32_Box).f_At),vb (((a0.f_S.f_Boxes)[Int.toNat r1]?.getD Z_ref32_Box).f_ByHand),vb (((a0.f_S.f_Boxes)[Int.toNat r1]?.getD Z_ref32_Box).f_Sick),vi (((a0.f_S.f_Boxes)[Int.toNat r1]?.getD Z_ref32_Box).f_Probe.f_Health),vi (((a0.f_S.f_Boxes)[Int.toNat r1]?.getD Z_ref32_Box).f_Probe.f_Fails),vi (((a0.f_S.f_Boxes)[Int.toNat r1]?.getD Z_ref32_Box).f_Probe.f_Began),vi (((a0.f_S.f_Boxes)[Int.toNat r1]?.getD Z_ref32_Box).f_Probe.f_Next)],vi a0.f_Now,vi a2] (.tup [.agg (qc21 r2.1),vi r2.2]))]) (by kernel_rfl) (AllP.cons hc4 (AllP.cons (fun _=>cx (ok_ref32_Exit n ((a0.f_S.f_Boxes)[Int.toNat r1]?.getD Z_ref32_Box) a0.f_Now a2 _ hr2)) AllP.nil)) (To.thenN (Wp.seq (Wp.seq (rg [1,2,3,6,9,32] [3,6,9] [(1,vi a1),(2,vi a2),(3,.own 3 0),(6,.own 6 0),(9,.own 9 0),(32,vb (r2.2 != 0))] [(3,89,(E_ref35_Host a0)),(6,89,[.val (.slice none 0 0),.val (.slice none 0 0),.val (.slice none 0 0),vi 0,.val (.slice none 0 0),vi 0,vi 0]),(9,132,(E_ref32_Box r2.1))] (To.thenN (cn h (fun h=>?_) (fun h=>?_)))))))
  ·refine Wp.seq (rg [6,7] [6] [(6,.own 6 0),(7,.val (.slice none 0 0))] [(6,89,(E_ref35_Host a0))] (To.thenN (Wp.ret (To.thenR (To.weak (K':=[(6,.own 6 0),(7,rs49 [])]) (L':=[(6,89,(E_ref35_Host a0))]) (.cons (.refl _) (.cons (.zero _ _) .nil)) (.cons (.cons (.refl _) (.cons (.refl _) (.cons (.refl _) (.cons (.refl _) (.cons (.refl _) (.cons (.refl _) (.cons (.refl _) .nil))))))) .nil) ?_)))))
   cases h
   exact To.done hΓ (by kernel_rfl)
  ·refine Wp.skip (To.thenN (Wp.seq ?_))
   obtain ⟨r3,hr3,h⟩:=bind_of h
   refine rc [] 3 [1,2,3,6] [3,6] [(1,vi a1),(2,vi a2),(3,.own 3 0),(6,.own 6 0)] [(3,89,[rs19 r3.f_Boxes,rs16 r3.f_Nets,rs16 r3.f_Vols,vi r3.f_Last,rs32 a0.f_Plan.f_L,vi a0.f_Plan.f_More,vi a0.f_Now]),(6,89,[.val (.slice none 0 0),.val (.slice none 0 0),.val (.slice none 0 0),vi 0,.val (.slice none 0 0),vi 0,vi 0])] (ok_ref33_Put n a0.f_S r2.1 _ hr3) (To.thenN (Wp.seq (Wp.regionD hm hΓ [(6,rs49 [(S_host_Event.mk a0.f_Now 1 a1 a2)])] [6,7] [6] (K':=[(6,.own 6 0),(7,rs49 [(S_host_Event.mk a0.f_Now 1 a1 a2)])]) (L':=[(6,89,[rs19 r3.f_Boxes,rs16 r3.f_Nets,rs16 r3.f_Vols,vi r3.f_Last,rs32 a0.f_Plan.f_L,vi a0.f_Plan.f_More,vi a0.f_Now])]) (ob:=[(true = true → MkOb 4 [vi a0.f_Now,vi 1,vi a1,vi a2] 1 (rs49 [(S_host_Event.mk a0.f_Now 1 a1 a2)]) ∧ GoodR (rs49 [(S_host_Event.mk a0.f_Now 1 a1 a2)]))]) (by kernel_rfl) (AllP.cons (fun _=>mkOb (by kernel_rfl) rfl (by kernel_rfl) (good_E_ref35_Event _)) AllP.nil) (To.thenN (Wp.ret ?_)))))
   cases h
   exact To.done hΓ (by kernel_rfl)
def again_Due (a0:Int) (a1:Int) (a2:Int) (a3:Int) (a4:Bool):Bool :=
 if a4 = true then false
 else (if (bif (a0 == 1) then true else (a0 == 3)) = true then true
 else (if (a0 == 2) = true then ((bif (a2 != 0) then (bif (a1 == 0) then true else (decide (a3 < a1))) else false))
 else false))
theorem ok_again_Due (a0:Int) (a1:Int) (a2:Int) (a3:Int) (a4:Bool) (r:Bool) (h:again_Due a0 a1 a2 a3 a4 = r):CallsX Tryz.prog 111 [vi a0,vi a1,vi a2,vi a3,vb a4] (vb r):=by
 unfold again_Due at h
 refine xo Tryz.f111 rfl fun F0 w0 _=>?_
 refine Wp.seq (rg [0,1,2,3,4] [] [(0,vi a0),(1,vi a1),(2,vi a2),(3,vi a3),(4,vb a4)] [] (To.thenN (Wp.seq (Wp.block (Wp.seq (rg [0,1,2,3,11] [] [(0,vi a0),(1,vi a1),(2,vi a2),(3,vi a3),(11,vb a4)] [] (To.thenN (cn h (fun h=>?_) (fun h=>?_)))))))))
 ·refine Wp.seq (rg [10] [] [(10,vb false)] [] (To.thenN (Wp.ret (To.blockR (To.thenR ?_)))))
  cases h
  exact To.done hΓ (by kernel_rfl)
 ·refine Wp.seq (rg [0,1,2,3,13] [] [(0,vi a0),(1,vi a1),(2,vi a2),(3,vi a3),(13,vb (bif (a0 == 1) then true else (a0 == 3)))] [] (To.thenN (cn h (fun h=>?_) (fun h=>?_))))
  ·refine Wp.seq (rg [10] [] [(10,vb true)] [] (To.thenN (Wp.ret (To.blockR (To.thenR ?_)))))
   cases h
   exact To.done hΓ (by kernel_rfl)
  ·refine Wp.seq (rg [1,2,3,20] [] [(1,vi a1),(2,vi a2),(3,vi a3),(20,vb (a0 == 2))] [] (To.thenN (cn h (fun h=>?_) (fun h=>?_))))
   ·refine Wp.seq (rg [10] [] [(10,vb (bif (a2 != 0) then (bif (a1 == 0) then true else (decide (a3 < a1))) else false))] [] (To.thenN (Wp.ret (To.blockR (To.thenR ?_)))))
    cases h
    exact To.done hΓ (by kernel_rfl)
   ·refine Wp.skip (To.blockN (To.thenN (Wp.seq (rg [10] [] [(10,vb false)] [] (To.thenN (Wp.ret ?_))))))
    cases h
    exact To.done hΓ (by kernel_rfl)
def again_Wait (n:Nat) (a0:Int):Option (Int) :=
 if (decide (a0 < 1)) = true then some 0
 else (if (decide (0 ≤ (if (20:Int) < (IntKind.wrap .i64 (a0 - 1)) then 20 else (IntKind.wrap .i64 (a0 - 1))))) = true then (lett ((if (60000:Int) < (IntKind.wrap .i64 ((IntKind.wrap .u64 (100 * 2 ^ (min (Int.toNat (if (20:Int) < (IntKind.wrap .i64 (a0 - 1)) then 20 else (IntKind.wrap .i64 (a0 - 1)))) (IntKind.bits .u64)))))) then 60000 else (IntKind.wrap .i64 ((IntKind.wrap .u64 (100 * 2 ^ (min (Int.toNat (if (20:Int) < (IntKind.wrap .i64 (a0 - 1)) then 20 else (IntKind.wrap .i64 (a0 - 1)))) (IntKind.bits .u64))))))):Int) fun x1 =>
 some x1) else none)
abbrev ex54 (x0:Int):=(if (20:Int) < (IntKind.wrap .i64 (x0 - 1)) then 20 else (IntKind.wrap .i64 (x0 - 1)))
theorem ok_again_Wait (n:Nat) (a0:Int) (r:Int) (h:again_Wait n a0 = some r):CallsX Tryz.prog 112 [vi a0] (vi r):=by
 unfold again_Wait at h
 refine xo Tryz.f112 rfl fun F0 w0 _=>?_
 refine Wp.seq (rg [0] [] [(0,vi a0)] [] (To.thenN (Wp.seq (Wp.seq (rg [0,4] [] [(0,vi a0),(4,vb (decide (a0 < 1)))] [] (To.thenN (cn h (fun h=>?_) (fun h=>?_))))))))
 ·refine Wp.seq (rg [2] [] [(2,vi 0)] [] (To.thenN (Wp.ret (To.thenR ?_))))
  cases h
  exact To.done hΓ (by kernel_rfl)
 ·refine Wp.skip (To.thenN (Wp.seq ?_))
  obtain ⟨hc2,h⟩:=chk_of h
  obtain ⟨x1,hx1,h⟩:=lett_of h
  refine r0 [2] [] [(2,vi (if (60000:Int) < (IntKind.wrap .i64 ((IntKind.wrap .u64 (100 * 2 ^ (min (Int.toNat (ex54 a0)) (IntKind.bits .u64)))))) then 60000 else (IntKind.wrap .i64 ((IntKind.wrap .u64 (100 * 2 ^ (min (Int.toNat (ex54 a0)) (IntKind.bits .u64))))))))] [] (AllP.cons hc2 AllP.nil) (To.eq (K':=[(2,vi x1)]) (L':=[]) (by cases hx1; rfl) (by cases hx1; rfl) (To.thenN (Wp.ret ?_)))
  cases h
  exact To.done hΓ (by kernel_rfl)
def life_Exit_j1 (n:Nat) (v1:Int) (v25:Bool) (b3:S_life_Box) (b6:S_life_Box):Option (S_life_Box) :=
 if v25 = true then ((again_Wait n (IntKind.wrap .i64 (b3.f_Done + 1))).bind fun r2 =>
 some (S_life_Box.mk b3.f_Spec b3.f_Id b3.f_State b3.f_Code b3.f_Runs b3.f_Done (IntKind.wrap .i64 (v1 + r2)) b3.f_ByHand b3.f_Sick b3.f_Probe))
 else some b3
theorem ok_life_Exit_j1 (n:Nat) (v1:Int) (v25:Bool) (b3:S_life_Box) (b6:S_life_Box) (o:S_life_Box) (h:life_Exit_j1 n v1 v25 b3 b6 = some o) {F0:Fz} {w0:Pt Tryz.prog} {Q:Exit → Act → World → Prop} (hQ:To 34 F0 w0 [(3,.own 3 0),(6,.own 6 0)] [(3,53,qc8 o),(6,53,(E_life_Box b6))] .normal Q):Wp Tryz.prog 34 F0 w0 [(1,vi v1),(3,.own 3 0),(6,.own 6 0),(25,vb v25)] [(3,53,(E_life_Box b3)),(6,53,(E_life_Box b6))] (cB (cA (cB (cB (cB (cF Tryz.f80)))))) Q:=by
 unfold life_Exit_j1 at h
 refine cn h (fun h=>?_) (fun h=>?_)
 ·obtain ⟨r2,hr2,h⟩:=bind_of h
  refine rc [] 4 [3,6] [3,6] [(3,.own 3 0),(6,.own 6 0)] [(3,53,(List.set (E_life_Box b3) 18 (vi (IntKind.wrap .i64 (v1 + r2))))),(6,53,(E_life_Box b6))] (ok_again_Wait n (IntKind.wrap .i64 (b3.f_Done + 1)) _ hr2) (kt [3,6] [3,6] [(3,.own 3 0),(6,.own 6 0)] [(3,53,(List.set (E_life_Box b3) 18 (vi (IntKind.wrap .i64 (v1 + r2))))),(6,53,(E_life_Box b6))] ?_)
  cases h
  exact hQ
 ·refine Wp.skip (kt [3,6] [3,6] [(3,.own 3 0),(6,.own 6 0)] [(3,53,(E_life_Box b3)),(6,53,(E_life_Box b6))] ?_)
  cases h
  exact hQ
def life_Exit (n:Nat) (a0:S_life_Box) (a1:Int) (a2:Int):Option (S_life_Box × Int) :=
 if (a0.f_State != 2) = true then (some (a0,13))
 else (lett (again_Due a0.f_Spec.f_Restart a0.f_Spec.f_Tries a2 a0.f_Done false) fun r1 =>
 (life_Exit_j1 n a1 r1 (S_life_Box.mk a0.f_Spec a0.f_Id 3 a2 a0.f_Runs a0.f_Done (-1) a0.f_ByHand a0.f_Sick a0.f_Probe) (S_life_Box.mk (S_api_Spec.mk [] [] [] 0 [] [] [] (S_api_Check.mk [] 0 0 0) 0 0) 0 0 0 0 0 0 false false (S_probe_State.mk 0 0 0 0))).bind fun o2 =>
 some (o2,0))
abbrev ex55 (x0:S_life_Box) (x1:Int):Nat × Nat × List D:=(3,53,(List.set (List.set (List.set (E_life_Box x0) 14 (vi 3)) 15 (vi x1)) 18 (vi (-1))))
theorem ok_life_Exit (n:Nat) (a0:S_life_Box) (a1:Int) (a2:Int) (r:S_life_Box × Int) (h:life_Exit n a0 a1 a2 = some r):CallsX Tryz.prog 80 [.agg (qc8 a0),vi a1,vi a2] (.tup [.agg (qc8 r.1),vi r.2]):=by
 unfold life_Exit at h
 refine xo Tryz.f80 rfl fun F0 w0 _=>?_
 refine Wp.seq (rg [1,2,3,6] [3,6] [(1,vi a1),(2,vi a2),(3,.own 3 0),(6,.own 6 0)] [(3,53,(E_life_Box a0)),(6,53,[.str [],.str [],.str [],vi 0,.str [],.val (.slice none 0 0),.val (.slice none 0 0),.str [],vi 0,vi 0,vi 0,vi 0,vi 0,vi 0,vi 0,vi 0,vi 0,vi 0,vi 0,vb false,vb false,vi 0,vi 0,vi 0,vi 0])] (To.thenN (Wp.seq (Wp.seq (rg [1,2,3,6,10] [3,6] [(1,vi a1),(2,vi a2),(3,.own 3 0),(6,.own 6 0),(10,vb (a0.f_State != 2))] [(3,53,(E_life_Box a0)),(6,53,[.str [],.str [],.str [],vi 0,.str [],.val (.slice none 0 0),.val (.slice none 0 0),.str [],vi 0,vi 0,vi 0,vi 0,vi 0,vi 0,vi 0,vi 0,vi 0,vi 0,vi 0,vb false,vb false,vi 0,vi 0,vi 0,vi 0])] (To.thenN (cn h (fun h=>?_) (fun h=>?_))))))))
 ·refine Wp.seq (rg [6,7] [6] [(6,.own 6 0),(7,vi 13)] [(6,53,(E_life_Box a0))] (To.thenN (Wp.ret (To.thenR ?_))))
  cases h
  exact To.done hΓ (by kernel_rfl)
 ·refine Wp.skip (To.thenN (Wp.seq (rg [1,2,3,6] [3,6] [(1,vi a1),(2,vi a2),(3,.own 3 0),(6,.own 6 0)] [(ex55 a0 a2),(6,53,[.str [],.str [],.str [],vi 0,.str [],.val (.slice none 0 0),.val (.slice none 0 0),.str [],vi 0,vi 0,vi 0,vi 0,vi 0,vi 0,vi 0,vi 0,vi 0,vi 0,vi 0,vb false,vb false,vi 0,vi 0,vi 0,vi 0])] (To.thenN (Wp.seq (Wp.seq ?_))))))
  obtain ⟨r1,hr1,h⟩:=lett_of h
  refine rc [] 9 [1,3,6,25] [3,6] [(1,vi a1),(3,.own 3 0),(6,.own 6 0),(25,vb r1)] [(ex55 a0 a2),(6,53,[.str [],.str [],.str [],vi 0,.str [],.val (.slice none 0 0),.val (.slice none 0 0),.str [],vi 0,vi 0,vi 0,vi 0,vi 0,vi 0,vi 0,vi 0,vi 0,vi 0,vi 0,vb false,vb false,vi 0,vi 0,vi 0,vi 0])] (ok_again_Due a0.f_Spec.f_Restart a0.f_Spec.f_Tries a2 a0.f_Done false _ hr1) (To.thenN ?_)
  obtain ⟨o2,ho2,h⟩:=bind_of h
  refine kw [1,3,6,25] [3,6] [(1,vi a1),(3,.own 3 0),(6,.own 6 0),(25,vb r1)] [(ex55 a0 a2),(6,53,[.str [],.str [],.str [],vi 0,.str [],.val (.slice none 0 0),.val (.slice none 0 0),.str [],vi 0,vi 0,vi 0,vi 0,vi 0,vi 0,vi 0,vi 0,vi 0,vi 0,vi 0,vb false,vb false,vi 0,vi 0,vi 0,vi 0])] (Wp.weak (K':=[(1,vi a1),(3,.own 3 0),(6,.own 6 0),(25,vb r1)]) (L':=[(ex55 a0 a2),(6,53,[.str [],.str [],.str [],vi 0,.str [],ls [],ls [],.str [],vi 0,vi 0,vi 0,vi 0,vi 0,vi 0,vi 0,vi 0,vi 0,vi 0,vi 0,vb false,vb false,vi 0,vi 0,vi 0,vi 0])]) (.cons (.refl _) (.cons (.refl _) (.cons (.refl _) (.cons (.refl _) .nil)))) (.cons (.cons (.refl _) (.cons (.refl _) (.cons (.refl _) (.cons (.refl _) (.cons (.refl _) (.cons (.refl _) (.cons (.refl _) (.cons (.refl _) (.cons (.refl _) (.cons (.refl _) (.cons (.refl _) (.cons (.refl _) (.cons (.refl _) (.cons (.refl _) (.cons (.refl _) (.cons (.refl _) (.cons (.refl _) (.cons (.refl _) (.cons (.refl _) (.cons (.refl _) (.cons (.refl _) (.cons (.refl _) (.cons (.refl _) (.cons (.refl _) (.cons (.refl _) .nil))))))))))))))))))))))))) (.cons (.cons (.refl _) (.cons (.refl _) (.cons (.refl _) (.cons (.refl _) (.cons (.refl _) (.cons (.zero _ _) (.cons (.zero _ _) (.cons (.refl _) (.cons (.refl _) (.cons (.refl _) (.cons (.refl _) (.cons (.refl _) (.cons (.refl _) (.cons (.refl _) (.cons (.refl _) (.cons (.refl _) (.cons (.refl _) (.cons (.refl _) (.cons (.refl _) (.cons (.refl _) (.cons (.refl _) (.cons (.refl _) (.cons (.refl _) (.cons (.refl _) (.cons (.refl _) .nil))))))))))))))))))))))))) .nil)) (ok_life_Exit_j1 n a1 r1 (S_life_Box.mk a0.f_Spec a0.f_Id 3 a2 a0.f_Runs a0.f_Done (-1) a0.f_ByHand a0.f_Sick a0.f_Probe) (S_life_Box.mk (S_api_Spec.mk [] [] [] 0 [] [] [] zx13 0 0) 0 0 0 0 0 0 false false zx14) o2 ho2 (To.thenN (Wp.seq (rg [6,7] [6] [(6,.own 6 0),(7,vi 0)] [(6,53,(E_life_Box o2))] (To.thenN (Wp.ret ?_)))))))
  cases h
  exact To.done hΓ (by kernel_rfl)
def host_Host_Exit__o0 (n:Nat) (a1:Int) (a2:Int) (h0:S_host_Host):Option ((List (S_host_Event)) × S_host_Host) :=
 (host_Host_Box__o0 n a1 h0).bind fun r1 =>
 if (!r1.2.1) = true then (some ([],r1.2.2))
 else ((life_Exit n r1.1 r1.2.2.f_now a2).bind fun r2 =>
 if (r2.2 != 0) = true then (some ([],r1.2.2))
 else ((store_Store_Put__o0 n r2.1 r1.2.2.f_Store).bind fun r3 =>
 some ([(S_host_Event.mk r1.2.2.f_now 1 a1 a2)],(S_host_Host.mk r3.2 r1.2.2.f_plan r1.2.2.f_now))))
theorem ok_host_Host_Exit__o0 (n:Nat) (a1:Int) (a2:Int) (h0:S_host_Host) (r:(List (S_host_Event)) × S_host_Host) (h:host_Host_Exit__o0 n a1 a2 h0 = some r):CallsB Tryz.prog 47 [.own 1000000 0,vi a1,vi a2] (qh39 1000000 1010060 1010061 1010062 1010063 h0) (rs43 r.1) (qh39 1000000 1010060 1010061 1010062 1010063 r.2):=by
 unfold host_Host_Exit__o0 at h
 refine bo Tryz.f47 rfl fun F0 w0=>?_
 refine Wp.seq (rg [0,1,2] [1000000,1010060,1010061,1010062,1010063] [(0,.own 1000000 0),(1,vi a1),(2,vi a2)] (qh39 1000000 1010060 1010061 1010062 1010063 h0) (To.thenN (Wp.seq ?_)))
 obtain ⟨r1,hr1,h⟩:=bind_of h
 refine rb [] 2 ⟨[(1000000,1000000),(1010060,1010060),(1010061,1010061),(1010062,1010062),(1010063,1010063)],[(1000000,1000000),(1010060,1010060),(1010061,1010061),(1010062,1010062),(1010063,1010063)],[.own 1000000 0,vi a1],(qh39 1000000 1010060 1010061 1010062 1010063 h0),.tup [.agg (qc8 r1.1),vb r1.2.1],(qh39 1000000 1010060 1010061 1010062 1010063 r1.2.2)⟩ [0,1,2,7,8] [7,1000000,1010060,1010061,1010062,1010063] [(0,.own 1000000 0),(1,vi a1),(2,vi a2),(7,.own 7 0),(8,vb r1.2.1)] ((7,53,(E_life_Box r1.1))::qh39 1000000 1010060 1010061 1010062 1010063 r1.2.2) ((ok_host_Host_Box__o0 n a1 h0 _ hr1)) (To.thenN (Wp.seq (Wp.seq (rg [0,1,2,7,17] [7,1000000,1010060,1010061,1010062,1010063] [(0,.own 1000000 0),(1,vi a1),(2,vi a2),(7,.own 7 0),(17,vb (!r1.2.1))] ((7,53,(E_life_Box r1.1))::qh39 1000000 1010060 1010061 1010062 1010063 r1.2.2) (To.thenN (cn h (fun h=>?_) (fun h=>?_)))))))
 ·refine Wp.seq (rg [6] [1000000,1010060,1010061,1010062,1010063] [(6,.val (.slice none 0 0))] (qh39 1000000 1010060 1010061 1010062 1010063 r1.2.2) (To.thenN (Wp.ret (To.thenR (To.weak (K':=[(6,rs43 [])]) (L':=(qh39 1000000 1010060 1010061 1010062 1010063 r1.2.2)) (.cons (.zero _ _) .nil) (.cons (.cons (.refl _) (.cons (.refl _) (.cons (.refl _) (.cons (.refl _) .nil)))) (.cons (.cons (.refl _) (.cons (.refl _) (.cons (.refl _) (.cons (.refl _) .nil)))) (.cons (.cons (.refl _) .nil) (.cons (.cons (.refl _) .nil) (.cons (.cons (.refl _) .nil) .nil))))) ?_)))))
  cases h
  exact To.doneB hΓ [1000000,1010060,1010061,1010062,1010063] (by kernel_rfl) (by kernel_rfl)
 ·refine Wp.skip (To.thenN (Wp.seq ?_))
  obtain ⟨r2,hr2,h⟩:=bind_of h
  refine Wp.regionO hm hΓ [] [(6,.tup [.agg (qc8 r2.1),vi r2.2])] [] [0,1,2,7,9,17,18,19,20,21,22,23,24,25,26,27] [7,1000000,1010060,1010061,1010062,1010063] [0,1,2,7,9] [7,1000000,1010060,1010061,1010062,1010063] (K':=[(0,.own 1000000 0),(1,vi a1),(2,vi a2),(7,.own 7 0),(9,vi r2.2)]) (L':=((7,53,(E_life_Box r2.1))::qh39 1000000 1010060 1010061 1010062 1010063 r1.2.2)) (ob:=[(true = true → CX Tryz.prog 80 [.agg (qc8 r1.1),vi r1.2.2.f_now,vi a2] (.tup [.agg (qc8 r2.1),vi r2.2]))]) (by kernel_rfl) (by kernel_rfl) (AllP.cons (fun _=>cx (ok_life_Exit n r1.1 r1.2.2.f_now a2 _ hr2)) AllP.nil) (To.thenN (Wp.seq (Wp.seq (rg [0,1,2,7,29] [7,1000000,1010060,1010061,1010062,1010063] [(0,.own 1000000 0),(1,vi a1),(2,vi a2),(7,.own 7 0),(29,vb (r2.2 != 0))] ((7,53,(E_life_Box r2.1))::qh39 1000000 1010060 1010061 1010062 1010063 r1.2.2) (To.thenN (cn h (fun h=>?_) (fun h=>?_)))))))
  ·refine Wp.seq (rg [6] [1000000,1010060,1010061,1010062,1010063] [(6,.val (.slice none 0 0))] (qh39 1000000 1010060 1010061 1010062 1010063 r1.2.2) (To.thenN (Wp.ret (To.thenR (To.weak (K':=[(6,rs43 [])]) (L':=(qh39 1000000 1010060 1010061 1010062 1010063 r1.2.2)) (.cons (.zero _ _) .nil) (.cons (.cons (.refl _) (.cons (.refl _) (.cons (.refl _) (.cons (.refl _) .nil)))) (.cons (.cons (.refl _) (.cons (.refl _) (.cons (.refl _) (.cons (.refl _) .nil)))) (.cons (.cons (.refl _) .nil) (.cons (.cons (.refl _) .nil) (.cons (.cons (.refl _) .nil) .nil))))) ?_)))))
   cases h
   exact To.doneB hΓ [1000000,1010060,1010061,1010062,1010063] (by kernel_rfl) (by kernel_rfl)
  ·refine Wp.skip (To.thenN (Wp.seq ?_))
   obtain ⟨r3,hr3,h⟩:=bind_of h
   refine Wp.regionO hm hΓ [] [] [(5,⟨[(1000000,1010060),(1010060,1010061),(1010061,1010062),(1010062,1010063)],[(1000000,1010060),(1010060,1010061),(1010061,1010062),(1010062,1010063)],[.own 1000000 0,.agg (qc8 r2.1)],(qf5 1000000 1010060 1010061 1010062 r1.2.2.f_Store),vb r3.1,(qf5 1000000 1010060 1010061 1010062 r3.2)⟩)] [0,1,2,7,29,30,31,32,33,34,35] [7,1000000,1010060,1010061,1010062,1010063] [0,1,2] [1000000,1010060,1010061,1010062,1010063] (K':=[(0,.own 1000000 0),(1,vi a1),(2,vi a2)]) (L':=((1000000,139,[.own 1010060 0,rs33 r1.2.2.f_plan.f_l,vi r1.2.2.f_plan.f_more,vi r1.2.2.f_now])::qf5 1010060 1010061 1010062 1010063 r3.2)) (ob:=[CbOb (CallsB Tryz.prog) 23 [.own 1010060 0,.agg (qc8 r2.1)] (ps15 1010061 1010062 1010063 r1.2.2.f_Store) ⟨[(1000000,1010060),(1010060,1010061),(1010061,1010062),(1010062,1010063)],[(1000000,1010060),(1010060,1010061),(1010061,1010062),(1010062,1010063)],[.own 1000000 0,.agg (qc8 r2.1)],(qf5 1000000 1010060 1010061 1010062 r1.2.2.f_Store),vb r3.1,(qf5 1000000 1010060 1010061 1010062 r3.2)⟩]) (by kernel_rfl) (by kernel_rfl) (AllP.cons (⟨(ok_store_Store_Put__o0 n r2.1 r1.2.2.f_Store _ hr3),by kernel_rfl,by kernel_rfl⟩) AllP.nil) ?_
   refine To.thenN (Wp.seq (rr [] [(7,rs43 [(S_host_Event.mk r1.2.2.f_now 1 a1 a2)])] [] [6] [43,1000000,1010060,1010061,1010062,1010063] [(6,.row 43)] ((43,137,[rc42 [(S_host_Event.mk r1.2.2.f_now 1 a1 a2)]])::(1000000,139,[.own 1010060 0,rs33 r1.2.2.f_plan.f_l,vi r1.2.2.f_plan.f_more,vi r1.2.2.f_now])::qf5 1010060 1010061 1010062 1010063 r3.2) [(MkOb 4 [vi r1.2.2.f_now,vi 1,vi a1,vi a2] 1 (rs43 [(S_host_Event.mk r1.2.2.f_now 1 a1 a2)]) ∧ GoodR (rs43 [(S_host_Event.mk r1.2.2.f_now 1 a1 a2)]))] (AllP.cons (mkOb (by kernel_rfl) rfl (by kernel_rfl) (good_E_host_Event _)) AllP.nil) (To.thenN (Wp.ret (To.pre (St.settle (ks:=[43]) (kk:=[6]) (kl:=[43,1000000,1010060,1010061,1010062,1010063]) (K':=[(6,.row 43)]) (L':=((43,137,[rc44 [(S_host_Event.mk r1.2.2.f_now 1 a1 a2)]])::(1000000,139,[.own 1010060 0,rs33 r1.2.2.f_plan.f_l,vi r1.2.2.f_plan.f_more,vi r1.2.2.f_now])::qf5 1010060 1010061 1010062 1010063 r3.2)) (by kernel_rfl)) (To.pre (St.sealK [6] (K':=[(6,rs43 [(S_host_Event.mk r1.2.2.f_now 1 a1 a2)])]) (by kernel_rfl)) ?_))))))
   cases h
   exact To.doneB hΓ [1000000,1010060,1010061,1010062,1010063] (by kernel_rfl) (by kernel_rfl)
def ref35_Sick (n:Nat) (a0:S_ref35_Host) (a1:Int) (a2:Bool):Option (S_ref35_Host × Bool) :=
 (ref33_Find n a0.f_S a1).bind fun r1 =>
 if (decide (r1 < 0)) = true then (some (a0,false))
 else (if (decide (0 ≤ r1 ∧ r1 < (List.length a0.f_S.f_Boxes:Int))) = true then ((ref33_Put n a0.f_S (S_ref32_Box.mk (((a0.f_S.f_Boxes)[Int.toNat r1]?.getD Z_ref32_Box).f_Spec) (((a0.f_S.f_Boxes)[Int.toNat r1]?.getD Z_ref32_Box).f_Id) (((a0.f_S.f_Boxes)[Int.toNat r1]?.getD Z_ref32_Box).f_State) (((a0.f_S.f_Boxes)[Int.toNat r1]?.getD Z_ref32_Box).f_Code) (((a0.f_S.f_Boxes)[Int.toNat r1]?.getD Z_ref32_Box).f_Runs) (((a0.f_S.f_Boxes)[Int.toNat r1]?.getD Z_ref32_Box).f_Done) (((a0.f_S.f_Boxes)[Int.toNat r1]?.getD Z_ref32_Box).f_At) (((a0.f_S.f_Boxes)[Int.toNat r1]?.getD Z_ref32_Box).f_ByHand) a2 (((a0.f_S.f_Boxes)[Int.toNat r1]?.getD Z_ref32_Box).f_Probe))).bind fun r2 =>
 some ((S_ref35_Host.mk r2 a0.f_Plan a0.f_Now),true)) else none)
theorem ok_ref35_Sick (n:Nat) (a0:S_ref35_Host) (a1:Int) (a2:Bool) (r:S_ref35_Host × Bool) (h:ref35_Sick n a0 a1 a2 = some r):CallsX Tryz.prog 77 [.agg (qc47 a0),vi a1,vb a2] (.tup [.agg (qc47 r.1),vb r.2]):=by
 unfold ref35_Sick at h
 refine xo Tryz.f77 rfl fun F0 w0 _=>?_
 refine Wp.seq (rg [1,2,3,6] [3,6] [(1,vi a1),(2,vb a2),(3,.own 3 0),(6,.own 6 0)] [(3,89,(E_ref35_Host a0)),(6,89,[.val (.slice none 0 0),.val (.slice none 0 0),.val (.slice none 0 0),vi 0,.val (.slice none 0 0),vi 0,vi 0])] (To.thenN (Wp.seq ?_)))
 obtain ⟨r1,hr1,h⟩:=bind_of h
 refine rc [] 3 [2,3,6,8] [3,6] [(2,vb a2),(3,.own 3 0),(6,.own 6 0),(8,vi r1)] [(3,89,(E_ref35_Host a0)),(6,89,[.val (.slice none 0 0),.val (.slice none 0 0),.val (.slice none 0 0),vi 0,.val (.slice none 0 0),vi 0,vi 0])] (ok_ref33_Find n a0.f_S a1 _ hr1) (To.thenN (Wp.seq (Wp.seq (rg [2,3,6,8,15] [3,6] [(2,vb a2),(3,.own 3 0),(6,.own 6 0),(8,vi r1),(15,vb (decide (r1 < 0)))] [(3,89,(E_ref35_Host a0)),(6,89,[.val (.slice none 0 0),.val (.slice none 0 0),.val (.slice none 0 0),vi 0,.val (.slice none 0 0),vi 0,vi 0])] (To.thenN (cn h (fun h=>?_) (fun h=>?_)))))))
 ·refine Wp.seq (rg [6,7] [6] [(6,.own 6 0),(7,vb false)] [(6,89,(E_ref35_Host a0))] (To.thenN (Wp.ret (To.thenR ?_))))
  cases h
  exact To.done hΓ (by kernel_rfl)
 ·refine Wp.skip (To.thenN (Wp.seq ?_))
  obtain ⟨hc3,h⟩:=chk_of h
  refine r0 [2,3,6,9] [3,6,9] [(2,vb a2),(3,.own 3 0),(6,.own 6 0),(9,.own 9 0)] [(3,89,(E_ref35_Host a0)),(6,89,[.val (.slice none 0 0),.val (.slice none 0 0),.val (.slice none 0 0),vi 0,.val (.slice none 0 0),vi 0,vi 0]),(9,132,(E_ref32_Box ((a0.f_S.f_Boxes)[Int.toNat r1]?.getD Z_ref32_Box)))] (AllP.cons hc3 AllP.nil) (To.thenN (Wp.seq (rg [3,6,9] [3,6,9] [(3,.own 3 0),(6,.own 6 0),(9,.own 9 0)] [(3,89,(E_ref35_Host a0)),(6,89,[.val (.slice none 0 0),.val (.slice none 0 0),.val (.slice none 0 0),vi 0,.val (.slice none 0 0),vi 0,vi 0]),(9,132,(List.set (E_ref32_Box ((a0.f_S.f_Boxes)[Int.toNat r1]?.getD Z_ref32_Box)) 20 (vb a2)))] (To.thenN (Wp.seq ?_)))))
  obtain ⟨r2,hr2,h⟩:=bind_of h
  refine rc [] 3 [3,6] [3,6] [(3,.own 3 0),(6,.own 6 0)] [(3,89,[rs19 r2.f_Boxes,rs16 r2.f_Nets,rs16 r2.f_Vols,vi r2.f_Last,rs32 a0.f_Plan.f_L,vi a0.f_Plan.f_More,vi a0.f_Now]),(6,89,[.val (.slice none 0 0),.val (.slice none 0 0),.val (.slice none 0 0),vi 0,.val (.slice none 0 0),vi 0,vi 0])] (ok_ref33_Put n a0.f_S (S_ref32_Box.mk (((a0.f_S.f_Boxes)[Int.toNat r1]?.getD Z_ref32_Box).f_Spec) (((a0.f_S.f_Boxes)[Int.toNat r1]?.getD Z_ref32_Box).f_Id) (((a0.f_S.f_Boxes)[Int.toNat r1]?.getD Z_ref32_Box).f_State) (((a0.f_S.f_Boxes)[Int.toNat r1]?.getD Z_ref32_Box).f_Code) (((a0.f_S.f_Boxes)[Int.toNat r1]?.getD Z_ref32_Box).f_Runs) (((a0.f_S.f_Boxes)[Int.toNat r1]?.getD Z_ref32_Box).f_Done) (((a0.f_S.f_Boxes)[Int.toNat r1]?.getD Z_ref32_Box).f_At) (((a0.f_S.f_Boxes)[Int.toNat r1]?.getD Z_ref32_Box).f_ByHand) a2 (((a0.f_S.f_Boxes)[Int.toNat r1]?.getD Z_ref32_Box).f_Probe)) _ hr2) (To.thenN (Wp.seq (rg [6,7] [6] [(6,.own 6 0),(7,vb true)] [(6,89,[rs19 r2.f_Boxes,rs16 r2.f_Nets,rs16 r2.f_Vols,vi r2.f_Last,rs32 a0.f_Plan.f_L,vi a0.f_Plan.f_More,vi a0.f_Now])] (To.thenN (Wp.ret ?_)))))
  cases h
  exact To.done hΓ (by kernel_rfl)
def host_Host_Fault__o0 (n:Nat) (a1:S_fault_Gap) (h0:S_host_Host):Option (S_host_Host) :=
 (fault_Add n h0.f_plan a1).bind fun r1 =>
 some (S_host_Host.mk h0.f_Store r1 h0.f_now)
theorem ok_host_Host_Fault__o0 (n:Nat) (a1:S_fault_Gap) (h0:S_host_Host) (r:S_host_Host) (h:host_Host_Fault__o0 n a1 h0 = some r):CallsB Tryz.prog 44 [.own 1000000 0,.agg (qc38 a1)] (qh39 1000000 1010060 1010061 1010062 1010063 h0) (.tup []) (ex38 r):=by
 unfold host_Host_Fault__o0 at h
 refine bo Tryz.f44 rfl fun F0 w0=>?_
 refine Wp.seq (rg [0,3] [3,1000000,1010060,1010061,1010062,1010063] [(0,.own 1000000 0),(3,.own 3 0)] ((3,97,qc38 a1)::qh39 1000000 1010060 1010061 1010062 1010063 h0) (To.thenN (Wp.seq (rg [0,3,5] [3,1000000,1010060,1010061,1010062,1010063] [(0,.own 1000000 0),(3,.own 3 0),(5,vb true)] ((3,97,qc38 a1)::qh39 1000000 1010060 1010061 1010062 1010063 h0) (To.thenN (Wp.cond (b:=true) (by kernel_rfl) (fun _=>?_) (fun hb=>by cases hb)))))))
 obtain ⟨r1,hr1,h⟩:=bind_of h
 refine Wp.regionO hm hΓ [] [(6,.agg (qc36 r1))] [] [0,3,5,6,7,8,9,10,11,12,13,14] [3,1000000,1010060,1010061,1010062,1010063] [] [1000000,1010060,1010061,1010062,1010063] (K':=[]) (L':=((1000000,139,[.own 1010060 0,rs33 r1.f_l,vi r1.f_more,vi h0.f_now])::qf5 1010060 1010061 1010062 1010063 h0.f_Store)) (ob:=[(true = true → CX Tryz.prog 70 [.agg [rs33 h0.f_plan.f_l,vi h0.f_plan.f_more],.agg (qc38 a1)] (.agg (qc36 r1)))]) (by kernel_rfl) (by kernel_rfl) (AllP.cons (fun _=>cx (ok_fault_Add n h0.f_plan a1 _ hr1)) AllP.nil) (To.fin ?_)
 cases h
 exact To.doneB hΓ [1000000,1010060,1010061,1010062,1010063] (by kernel_rfl) (by kernel_rfl)
theorem good_E_ref34_Gap (l:List (S_fault_Gap)):GoodR (.recs (S_fault_Gap.mk 0 0) E_ref34_Gap l):=⟨Nat.le_of_ble_eq_true (by kernel_rfl),fun _=>⟨rfl,rfl⟩⟩
def ref34_near (a0:Int):Int :=
 if (decide (a0 < 0)) = true then 0
 else (if (decide (a0 > 1000)) = true then 1000
 else a0)
theorem ok_ref34_near (a0:Int) (r:Int) (h:ref34_near a0 = r):CallsX Tryz.prog 131 [vi a0] (vi r):=by
 unfold ref34_near at h
 refine xo Tryz.f131 rfl fun F0 w0 _=>?_
 refine Wp.seq (rg [0] [] [(0,vi a0)] [] (To.thenN (Wp.seq (Wp.seq (rg [0,4] [] [(0,vi a0),(4,vb (decide (a0 < 0)))] [] (To.thenN (cn h (fun h=>?_) (fun h=>?_))))))))
 ·refine Wp.seq (rg [2] [] [(2,vi 0)] [] (To.thenN (Wp.ret (To.thenR ?_))))
  cases h
  exact To.done hΓ (by kernel_rfl)
 ·refine Wp.skip (To.thenN (Wp.seq (Wp.seq (rg [0,6] [] [(0,vi a0),(6,vb (decide (a0 > 1000)))] [] (To.thenN (cn h (fun h=>?_) (fun h=>?_)))))))
  ·refine Wp.seq (rg [2] [] [(2,vi 1000)] [] (To.thenN (Wp.ret (To.thenR ?_))))
   cases h
   exact To.done hΓ (by kernel_rfl)
  ·refine Wp.skip (To.thenN (Wp.seq (rg [2] [] [(2,vi a0)] [] (To.thenN (Wp.ret ?_)))))
   cases h
   exact To.done hΓ (by kernel_rfl)
def ref34_Add_l1 (n:Nat) (b2:S_ref34_Plan) (b3:S_fault_Gap) (b4:S_ref34_Plan):Nat → Int → S_ref34_Plan → Option (S_ref34_Plan)
 | 0,_,_=>none
 | k + 1,v6,b5=>if (decide (v6 < (List.length b2.f_L:Int))) = true then (if (decide (0 ≤ v6 ∧ v6 < (List.length b2.f_L:Int))) = true then (if (decide ((List.length b5.f_L + List.length ([((b2.f_L)[Int.toNat v6]?.getD (S_fault_Gap.mk 0 0))]:List (S_fault_Gap))) * (16 + 1) ≤ limit)) = true then (ref34_Add_l1 n b2 b3 b4 k (IntKind.wrap .i64 (v6 + 1)) (S_ref34_Plan.mk (b5.f_L ++ ([((b2.f_L)[Int.toNat v6]?.getD (S_fault_Gap.mk 0 0))]:List (S_fault_Gap))) b5.f_More)) else none) else none)
 else some b5
abbrev rc52 (l:List (S_fault_Gap)):D:=.rowc false (α:=S_fault_Gap) zx31 E_ref34_Gap l
abbrev qc53 (x:S_ref34_Plan):List D:=[rs32 x.f_L,vi x.f_More]
abbrev ex56 (x0:S_ref34_Plan) (x1:Int):=([((x0.f_L)[Int.toNat x1]?.getD zx31)]:List (S_fault_Gap))
abbrev ex57 (x0:S_ref34_Plan):Nat × Nat × List D:=(5,87,[.row 4300,vi x0.f_More])
abbrev ex74 (x0:S_ref34_Plan) (x1:Int):=((x0.f_L)[Int.toNat x1]?.getD zx31)
theorem ok_ref34_Add_l1 (n:Nat) (b2:S_ref34_Plan) (b3:S_fault_Gap) (b4:S_ref34_Plan) {F0:Fz} {w0:Pt Tryz.prog} {Q:Exit → Act → World → Prop} (k:Nat):∀ (v6:Int) (b5:S_ref34_Plan) (o:S_ref34_Plan),ref34_Add_l1 n b2 b3 b4 k v6 b5 = some o → To 61 F0 w0 [(3,.own 3 0),(4,.own 4 0),(5,.own 5 0)] [(3,136,qc38 b3),(4,87,qc53 b4),(ex57 o),(4300,136,[rc52 o.f_L])] (.exit 0) Q → WL Tryz.prog 61 F0 w0 [(2,.own 2 0),(3,.own 3 0),(4,.own 4 0),(5,.own 5 0),(6,vi v6)] [(2,87,qc53 b2),(3,136,qc38 b3),(4,87,qc53 b4),(ex57 b5),(4300,136,[rc52 b5.f_L])] (cI (cI (cB (cA (cB (cB (cB (cF Tryz.f105)))))))) Q:=by
 induction k with
 | zero=>intro v6 b5 o h; cases h
 | succ k ih =>
  intro v6 b5 o h hQ
  rw [ref34_Add_l1] at h
  refine WL.round (Wp.seq (Wp.seq (rg [2,3,4,5,6,19] [2,3,4,5,4300] [(2,.own 2 0),(3,.own 3 0),(4,.own 4 0),(5,.own 5 0),(6,vi v6),(19,vb (decide (v6 < (List.length b2.f_L:Int))))] [(2,87,qc53 b2),(3,136,qc38 b3),(4,87,qc53 b4),(ex57 b5),(4300,136,[rc52 b5.f_L])] (To.thenN (cn h (fun h=>?_) (fun h=>?_))))))
  ·refine Wp.skip (To.thenN (Wp.seq (Wp.block ?_)))
   obtain ⟨hc1,h⟩:=chk_of h
   obtain ⟨hc2,h⟩:=chk_of h
   refine Wp.regionD hm hΓ [(7,rs32 ([(ex74 b2 v6)])),(8,.row 30),(1008,rs32 (b5.f_L ++ (ex56 b2 v6)))] [2,3,4,5,6] [2,3,4,5,30] (K':=[(2,.own 2 0),(3,.own 3 0),(4,.own 4 0),(5,.own 5 0),(6,vi v6)]) (L':=[(2,87,qc53 b2),(3,136,qc38 b3),(4,87,qc53 b4),(5,87,[.row 30,vi b5.f_More]),(30,136,[rc52 (b5.f_L ++ (ex56 b2 v6))])]) (ob:=[(decide (0 ≤ v6 ∧ v6 < (List.length b2.f_L:Int))) = true,(true = true → MkOb 2 [vi ((ex74 b2 v6).f_Skip),vi ((ex74 b2 v6).f_Fail)] 1 (rs32 ([(ex74 b2 v6)])) ∧ GoodR (rs32 ([(ex74 b2 v6)]))),(decide ((List.length b5.f_L + List.length (ex56 b2 v6)) * (16 + 1) ≤ limit)) = true,(AppOb zx31 E_ref34_Gap b5.f_L (List.flatMap E_ref34_Gap (ex56 b2 v6)) (List.length (ex56 b2 v6)) (rs32 (b5.f_L ++ (ex56 b2 v6))) ∧ GoodR (rs32 (b5.f_L ++ (ex56 b2 v6))))]) (by kernel_rfl) (AllP.cons hc1 (AllP.cons (fun _=>mkOb (by kernel_rfl) rfl (by kernel_rfl) (good_E_ref34_Gap _)) (AllP.cons hc2 (AllP.cons (appOb rfl rfl (good_E_ref34_Gap _)) AllP.nil)))) (To.blockN (To.thenN (rg [2,3,4,5,6] [2,3,4,5,30] [(2,.own 2 0),(3,.own 3 0),(4,.own 4 0),(5,.own 5 0),(ex47 v6)] [(2,87,qc53 b2),(3,136,qc38 b3),(4,87,qc53 b4),(5,87,[.row 30,vi b5.f_More]),(30,136,[rc52 (b5.f_L ++ (ex56 b2 v6))])] (nt [2,3,4,5,6] [2,3,4,5,30] [(30,4300)] [2,3,4,5,6] [2,3,4,5,4300] [(2,.own 2 0),(3,.own 3 0),(4,.own 4 0),(5,.own 5 0),(ex47 v6)] [(2,87,qc53 b2),(3,136,qc38 b3),(4,87,qc53 b4),(ex57 b5),(4300,136,[rc52 (b5.f_L ++ (ex56 b2 v6))])] (To.again ?_)))))
   exact ih (IntKind.wrap .i64 (v6 + 1)) (S_ref34_Plan.mk (b5.f_L ++ (ex56 b2 v6)) b5.f_More) _ h hQ
  ·refine Wp.exit (To.thenX (To.thenX (kt [3,4,5] [3,4,5,4300] [(3,.own 3 0),(4,.own 4 0),(5,.own 5 0)] [(3,136,qc38 b3),(4,87,qc53 b4),(ex57 b5),(4300,136,[rc52 b5.f_L])] ?_)))
   cases h
   exact hQ
def ref34_Add (n:Nat) (a0:S_ref34_Plan) (a1:S_fault_Gap):Option (S_ref34_Plan) :=
 if (decide ((List.length a0.f_L:Int) ≥ 32)) = true then some a0
 else ((ref34_Add_l1 n a0 a1 (S_ref34_Plan.mk [] 0) n 0 (S_ref34_Plan.mk [] a0.f_More)).bind fun o1 =>
 if ((ref34_near a1.f_Fail) == 0) = true then (some (S_ref34_Plan.mk o1.f_L (IntKind.wrap .i64 (o1.f_More + (ref34_near a1.f_Skip)))))
 else (if (decide ((List.length o1.f_L + List.length ([(S_fault_Gap.mk (IntKind.wrap .i64 (o1.f_More + (ref34_near a1.f_Skip))) (ref34_near a1.f_Fail))]:List (S_fault_Gap))) * (16 + 1) ≤ limit)) = true then (lett ((o1.f_L ++ ([(S_fault_Gap.mk (IntKind.wrap .i64 (o1.f_More + (ref34_near a1.f_Skip))) (ref34_near a1.f_Fail))]:List (S_fault_Gap))):List (S_fault_Gap)) fun x2 =>
 some (S_ref34_Plan.mk x2 0)) else none))
abbrev rc54 (l:List (S_fault_Gap)):D:=.rowc true (α:=S_fault_Gap) zx31 E_ref34_Gap l
theorem ok_ref34_Add (n:Nat) (a0:S_ref34_Plan) (a1:S_fault_Gap) (r:S_ref34_Plan) (h:ref34_Add n a0 a1 = some r):CallsX Tryz.prog 105 [.agg (qc53 a0),.agg (qc38 a1)] (.agg (qc53 r)):=by
 unfold ref34_Add at h
 refine xo Tryz.f105 rfl fun F0 w0 _=>?_
 refine Wp.seq (rg [2,3,4] [2,3,4] [(2,.own 2 0),(3,.own 3 0),(4,.own 4 0)] [(2,87,qc53 a0),(3,136,qc38 a1),(4,87,[.val (.slice none 0 0),vi 0])] (To.thenN (Wp.seq (Wp.seq (rg [2,3,4,10] [2,3,4] [(2,.own 2 0),(3,.own 3 0),(4,.own 4 0),(10,vb (decide ((List.length a0.f_L:Int) ≥ 32)))] [(2,87,qc53 a0),(3,136,qc38 a1),(4,87,[.val (.slice none 0 0),vi 0])] (To.thenN (cn h (fun h=>?_) (fun h=>?_))))))))
 ·refine Wp.seq (rg [4] [4] [(4,.own 4 0)] [(4,87,qc53 a0)] (To.thenN (Wp.ret (To.thenR ?_))))
  cases h
  exact To.done hΓ (by kernel_rfl)
 ·refine Wp.skip (To.thenN (Wp.seq (rg [2,3,4,5] [2,3,4,5] [(2,.own 2 0),(3,.own 3 0),(4,.own 4 0),(5,.own 5 0)] [(2,87,qc53 a0),(3,136,qc38 a1),(4,87,[.val (.slice none 0 0),vi 0]),(5,87,[.val (.slice none 0 0),vi a0.f_More])] (To.thenN (Wp.seq (Wp.seq (rg [2,3,4,5,6] [2,3,4,5] [(2,.own 2 0),(3,.own 3 0),(4,.own 4 0),(5,.own 5 0),(6,vi 0)] [(2,87,qc53 a0),(3,136,qc38 a1),(4,87,[.val (.slice none 0 0),vi 0]),(5,87,[.val (.slice none 0 0),vi a0.f_More])] (To.thenN (Wp.block ?_)))))))))
  obtain ⟨o1,ho1,h⟩:=bind_of h
  refine kw [2,3,4,5,6] [2,3,4,5] [(2,.own 2 0),(3,.own 3 0),(4,.own 4 0),(5,.own 5 0),(6,vi 0)] [(2,87,qc53 a0),(3,136,qc38 a1),(4,87,[.val (.slice none 0 0),vi 0]),(5,87,[.val (.slice none 0 0),vi a0.f_More])] (Wp.pre (St.vacantB 5 0 4300 136 (good_E_ref34_Gap _) (by decide) (by kernel_rfl) (L':=[(2,87,qc53 a0),(3,136,qc38 a1),(4,87,[.val (.slice none 0 0),vi 0]),(ex57 a0)]) (by kernel_rfl)) (kw [2,3,4,5,6] [2,3,4,5,4300] [(2,.own 2 0),(3,.own 3 0),(4,.own 4 0),(5,.own 5 0),(6,vi 0)] [(2,87,qc53 a0),(3,136,qc38 a1),(4,87,[.val (.slice none 0 0),vi 0]),(ex57 a0),(4300,136,[rc52 []])] (Wp.weak (K':=[(2,.own 2 0),(3,.own 3 0),(4,.own 4 0),(5,.own 5 0),(6,vi 0)]) (L':=[(2,87,qc53 a0),(3,136,qc38 a1),(4,87,[rs32 [],vi 0]),(ex57 a0),(4300,136,[rc52 []])]) (.cons (.refl _) (.cons (.refl _) (.cons (.refl _) (.cons (.refl _) (.cons (.refl _) .nil))))) (.cons (.cons (.refl _) (.cons (.refl _) .nil)) (.cons (.cons (.refl _) (.cons (.refl _) .nil)) (.cons (.cons (.zero _ _) (.cons (.refl _) .nil)) (.cons (.cons (.refl _) (.cons (.refl _) .nil)) (.cons (.cons (.refl _) .nil) .nil))))) (Wp.loopL (ok_ref34_Add_l1 n a0 a1 zx50 n 0 (S_ref34_Plan.mk [] a0.f_More) o1 ho1 (To.blockX (To.thenN (Wp.seq (Wp.seq (rc [] 2 [3,4,5,35] [3,4,5,4300] [(3,.own 3 0),(4,.own 4 0),(5,.own 5 0),(35,vb ((ref34_near a1.f_Fail) == 0))] [(3,136,qc38 a1),(4,87,[rs32 [],vi 0]),(5,87,[.row 4300,vi o1.f_More]),(4300,136,[rc52 o1.f_L])] (ok_ref34_near a1.f_Fail _ rfl) ?_))))))))))
  refine To.thenN (cn h (fun h=>?_) (fun h=>?_))
  ·refine Wp.seq (Wp.regionD hm hΓ [(4,vi (ref34_near a1.f_Skip))] [4,5] [4,5,4300] (K':=[(4,.own 4 0),(5,.own 5 0)]) (L':=[(4,87,[rs32 [],vi 0]),(5,87,[.row 4300,vi (IntKind.wrap .i64 (o1.f_More + (ref34_near a1.f_Skip)))]),(4300,136,[rc52 o1.f_L])]) (ob:=[(true = true → CX Tryz.prog 131 [vi a1.f_Skip] (vi (ref34_near a1.f_Skip)))]) (by kernel_rfl) (AllP.cons (fun _=>cx (ok_ref34_near a1.f_Skip _ rfl)) AllP.nil) (To.thenN (Wp.seq (rg [4] [4,4300] [(4,.own 4 0)] [(4,87,[.row 4300,vi (IntKind.wrap .i64 (o1.f_More + (ref34_near a1.f_Skip)))]),(4300,136,[rc52 o1.f_L])] (To.thenN (Wp.ret (To.thenR (To.pre (St.settle (ks:=[4300]) (kk:=[4]) (kl:=[4,4300]) (K':=[(4,.own 4 0)]) (L':=[(4,87,[.row 4300,vi (IntKind.wrap .i64 (o1.f_More + (ref34_near a1.f_Skip)))]),(4300,136,[rc54 o1.f_L])]) (by kernel_rfl)) (To.pre (St.sealB [4] (L':=[(4,87,[rs32 o1.f_L,vi (IntKind.wrap .i64 (o1.f_More + (ref34_near a1.f_Skip)))]),(4300,136,[rc54 o1.f_L])]) (by kernel_rfl)) ?_)))))))))
   cases h
   exact To.done hΓ (by kernel_rfl)
  ·refine Wp.skip (To.thenN (Wp.seq ?_))
   obtain ⟨hc3,h⟩:=chk_of h
   obtain ⟨x2,hx2,h⟩:=lett_of h
   refine Wp.regionD hm hΓ [(6,vi (ref34_near a1.f_Skip)),(10,vi (ref34_near a1.f_Fail)),(12,rs32 [(S_fault_Gap.mk (IntKind.wrap .i64 (o1.f_More + (ref34_near a1.f_Skip))) (ref34_near a1.f_Fail))]),(13,.row 57),(1013,rs32 (o1.f_L ++ ([(S_fault_Gap.mk (IntKind.wrap .i64 (o1.f_More + (ref34_near a1.f_Skip))) (ref34_near a1.f_Fail))]:List (S_fault_Gap))))] [4,5] [4,5,57] (K':=[(4,.own 4 0),(5,.own 5 0)]) (L':=[(4,87,[rs32 [],vi 0]),(5,87,[.row 57,vi o1.f_More]),(57,136,[rc52 (o1.f_L ++ ([(S_fault_Gap.mk (IntKind.wrap .i64 (o1.f_More + (ref34_near a1.f_Skip))) (ref34_near a1.f_Fail))]:List (S_fault_Gap)))])]) (ob:=[(true = true → CX Tryz.prog 131 [vi a1.f_Skip] (vi (ref34_near a1.f_Skip))),(true = true → CX Tryz.prog 131 [vi a1.f_Fail] (vi (ref34_near a1.f_Fail))),(true = true → MkOb 2 [vi (IntKind.wrap .i64 (o1.f_More + (ref34_near a1.f_Skip))),vi (ref34_near a1.f_Fail)] 1 (rs32 [(S_fault_Gap.mk (IntKind.wrap .i64 (o1.f_More + (ref34_near a1.f_Skip))) (ref34_near a1.f_Fail))]) ∧ GoodR (rs32 [(S_fault_Gap.mk (IntKind.wrap .i64 (o1.f_More + (ref34_near a1.f_Skip))) (ref34_near a1.f_Fail))])),(decide ((List.length o1.f_L + List.length ([(S_fault_Gap.mk (IntKind.wrap .i64 (o1.f_More + (ref34_near a1.f_Skip))) (ref34_near a1.f_Fail))]:List (S_fault_Gap))) * (16 + 1) ≤ limit)) = true,(AppOb zx31 E_ref34_Gap o1.f_L (List.flatMap E_ref34_Gap ([(S_fault_Gap.mk (IntKind.wrap .i64 (o1.f_More + (ref34_near a1.f_Skip))) (ref34_near a1.f_Fail))]:List (S_fault_Gap))) (List.length ([(S_fault_Gap.mk (IntKind.wrap .i64 (o1.f_More + (ref34_near a1.f_Skip))) (ref34_near a1.f_Fail))]:List (S_fault_Gap))) (rs32 (o1.f_L ++ ([(S_fault_Gap.mk (IntKind.wrap .i64 (o1.f_More + (ref34_near a1.f_Skip))) (ref34_near a1.f_Fail))]:List (S_fault_Gap)))) ∧ GoodR (rs32 (o1.f_L ++ ([(S_fault_Gap.mk (IntKind.wrap .i64 (o1.f_More + (ref34_near a1.f_Skip))) (ref34_near a1.f_Fail))]:List (S_fault_Gap)))))]) (by kernel_rfl) (AllP.cons (fun _=>cx (ok_ref34_near a1.f_Skip _ rfl)) (AllP.cons (fun _=>cx (ok_ref34_near a1.f_Fail _ rfl)) (AllP.cons (fun _=>mkOb (by kernel_rfl) rfl (by kernel_rfl) (good_E_ref34_Gap _)) (AllP.cons hc3 (AllP.cons (appOb rfl rfl (good_E_ref34_Gap _)) AllP.nil))))) (To.eq (K':=[(4,.own 4 0),(5,.own 5 0)]) (L':=[(4,87,[rs32 [],vi 0]),(5,87,[.row 57,vi o1.f_More]),(57,136,[rc52 x2])]) (by cases hx2; rfl) (by cases hx2; rfl) (To.thenN (Wp.seq (rg [4,5] [4,5,57] [(4,.own 4 0),(5,.own 5 0)] [(4,87,[rs32 [],vi 0]),(5,87,[.row 57,vi 0]),(57,136,[rc52 x2])] (To.thenN (Wp.seq (rg [4] [4,57] [(4,.own 4 0)] [(4,87,[.row 57,vi 0]),(57,136,[rc52 x2])] (To.thenN (Wp.ret (To.pre (St.settle (ks:=[57]) (kk:=[4]) (kl:=[4,57]) (K':=[(4,.own 4 0)]) (L':=[(4,87,[.row 57,vi 0]),(57,136,[rc54 x2])]) (by kernel_rfl)) ?_))))))))))
   refine To.pre (St.sealB [4] (L':=[(4,87,[rs32 x2,vi 0]),(57,136,[rc54 x2])]) (by kernel_rfl)) ?_
   cases h
   exact To.done hΓ (by kernel_rfl)
def ref35_Fault (n:Nat) (a0:S_ref35_Host) (a1:S_fault_Gap):Option (S_ref35_Host) :=
 (ref34_Add n a0.f_Plan a1).bind fun r1 =>
 some (S_ref35_Host.mk a0.f_S r1 a0.f_Now)
theorem ok_ref35_Fault (n:Nat) (a0:S_ref35_Host) (a1:S_fault_Gap) (r:S_ref35_Host) (h:ref35_Fault n a0 a1 = some r):CallsX Tryz.prog 78 [.agg (qc47 a0),.agg (qc38 a1)] (.agg (qc47 r)):=by
 unfold ref35_Fault at h
 refine xo Tryz.f78 rfl fun F0 w0 _=>?_
 refine Wp.seq (rg [2,3,4] [2,3,4] [(2,.own 2 0),(3,.own 3 0),(4,.own 4 0)] [(2,89,(E_ref35_Host a0)),(3,136,qc38 a1),(4,89,[.val (.slice none 0 0),.val (.slice none 0 0),.val (.slice none 0 0),vi 0,.val (.slice none 0 0),vi 0,vi 0])] (To.thenN (Wp.seq ?_)))
 obtain ⟨r1,hr1,h⟩:=bind_of h
 refine rc [] 3 [2,4] [2,4] [(2,.own 2 0),(4,.own 4 0)] [(2,89,(List.set (List.set (E_ref35_Host a0) 4 (rs32 r1.f_L)) 5 (vi r1.f_More))),(4,89,[.val (.slice none 0 0),.val (.slice none 0 0),.val (.slice none 0 0),vi 0,.val (.slice none 0 0),vi 0,vi 0])] (ok_ref34_Add n a0.f_Plan a1 _ hr1) (To.thenN (Wp.seq (rg [4] [4] [(4,.own 4 0)] [(4,89,(List.set (List.set (E_ref35_Host a0) 4 (rs32 r1.f_L)) 5 (vi r1.f_More)))] (To.thenN (Wp.ret ?_)))))
 cases h
 exact To.done hΓ (by kernel_rfl)
def ref34_Next_j1 (n:Nat) (v5:Bool) (v41:Bool) (b1:S_ref34_Plan) (b2:S_ref34_Plan) (b4:S_ref34_Plan) (b6:S_fault_Gap):Option (S_ref34_Plan × S_ref34_Plan × S_fault_Gap) :=
 if v41 = true then (if (decide (0 ≤ (0:Int) ∧ (0:Int) < (List.length b1.f_L:Int))) = true then (some ((S_ref34_Plan.mk [] b2.f_More),(S_ref34_Plan.mk [] b4.f_More),(S_fault_Gap.mk 0 (IntKind.wrap .i64 ((((b1.f_L)[Int.toNat 0]?.getD (S_fault_Gap.mk 0 0)).f_Fail) - 1))))) else none)
 else (some ((S_ref34_Plan.mk [] b2.f_More),(S_ref34_Plan.mk [] b4.f_More),b6))
abbrev ex58 (x0:S_ref34_Plan):=((x0.f_L)[Int.toNat 0]?.getD zx31)
abbrev ex59 (x0:S_ref34_Plan):Nat × Nat × List D:=(2,87,[.val (.slice none 0 0),vi x0.f_More])
abbrev ex60 (x0:S_ref34_Plan):Nat × Nat × List D:=(4,87,[.val (.slice none 0 0),vi x0.f_More])
abbrev ex61 (x0:S_ref34_Plan):=(decide (0 ≤ (0:Int) ∧ (0:Int) < (List.length x0.f_L:Int)))
theorem ok_ref34_Next_j1 (n:Nat) (v5:Bool) (v41:Bool) (b1:S_ref34_Plan) (b2:S_ref34_Plan) (b4:S_ref34_Plan) (b6:S_fault_Gap) (o:S_ref34_Plan × S_ref34_Plan × S_fault_Gap) (h:ref34_Next_j1 n v5 v41 b1 b2 b4 b6 = some o) {F0:Fz} {w0:Pt Tryz.prog} {Q:Exit → Act → World → Prop} (hQ:To 77 F0 w0 [(1,.own 1 0),(2,.own 2 0),(4,.own 4 0),(5,vb v5),(6,.own 6 0)] [(1,87,qc53 b1),(2,87,[.val (.slice none 0 0),vi o.1.f_More]),(4,87,[.val (.slice none 0 0),vi o.2.1.f_More]),(6,136,qc38 o.2.2)] .normal Q):Wp Tryz.prog 77 F0 w0 [(1,.own 1 0),(2,.own 2 0),(4,.own 4 0),(5,vb v5),(6,.own 6 0),(41,vb v41)] [(1,87,qc53 b1),(ex59 b2),(ex60 b4),(6,136,qc38 b6)] (cB (cA (cB (cB (cB (cB (cB (cF Tryz.f110)))))))) Q:=by
 unfold ref34_Next_j1 at h
 refine cn h (fun h=>?_) (fun h=>?_)
 ·obtain ⟨hc1,h⟩:=chk_of h
  refine r0 [1,2,4,5,6] [1,2,4,6] [(1,.own 1 0),(2,.own 2 0),(4,.own 4 0),(5,vb v5),(6,.own 6 0)] [(1,87,qc53 b1),(ex59 b2),(ex60 b4),(6,136,[vi 0,vi (IntKind.wrap .i64 (((ex58 b1).f_Fail) - 1))])] (AllP.cons hc1 AllP.nil) (kt [1,2,4,5,6] [1,2,4,6] [(1,.own 1 0),(2,.own 2 0),(4,.own 4 0),(5,vb v5),(6,.own 6 0)] [(1,87,qc53 b1),(ex59 b2),(ex60 b4),(6,136,[vi 0,vi (IntKind.wrap .i64 (((ex58 b1).f_Fail) - 1))])] ?_)
  cases h
  exact hQ
 ·refine Wp.skip (kt [1,2,4,5,6] [1,2,4,6] [(1,.own 1 0),(2,.own 2 0),(4,.own 4 0),(5,vb v5),(6,.own 6 0)] [(1,87,qc53 b1),(ex59 b2),(ex60 b4),(6,136,qc38 b6)] ?_)
  cases h
  exact hQ
def ref34_Next_j2 (n:Nat) (v5:Bool) (v51:Bool) (b1:S_ref34_Plan) (b2:S_ref34_Plan) (b4:S_ref34_Plan) (b6:S_fault_Gap):Option (S_ref34_Plan × S_ref34_Plan) :=
 if v51 = true then (if (decide (List.length ([b6]:List (S_fault_Gap)) * (16 + 1) ≤ limit)) = true then (some ((S_ref34_Plan.mk [] b2.f_More),(S_ref34_Plan.mk ([b6]:List (S_fault_Gap)) b4.f_More))) else none)
 else (some ((S_ref34_Plan.mk [] b2.f_More),(S_ref34_Plan.mk [] b4.f_More)))
abbrev ex62 (x0:S_ref34_Plan):Nat × Nat × List D:=(4,87,[.row 4240,vi x0.f_More])
theorem ok_ref34_Next_j2 (n:Nat) (v5:Bool) (v51:Bool) (b1:S_ref34_Plan) (b2:S_ref34_Plan) (b4:S_ref34_Plan) (b6:S_fault_Gap) (o:S_ref34_Plan × S_ref34_Plan) (h:ref34_Next_j2 n v5 v51 b1 b2 b4 b6 = some o) {F0:Fz} {w0:Pt Tryz.prog} {Q:Exit → Act → World → Prop} (hQ:To 77 F0 w0 [(1,.own 1 0),(2,.own 2 0),(4,.own 4 0),(5,vb v5)] [(1,87,qc53 b1),(2,87,[.val (.slice none 0 0),vi o.1.f_More]),(4,87,[.row 4240,vi o.2.f_More]),(4240,136,[rc52 o.2.f_L])] .normal Q):Wp Tryz.prog 77 F0 w0 [(1,.own 1 0),(2,.own 2 0),(4,.own 4 0),(5,vb v5),(6,.own 6 0),(51,vb v51)] [(1,87,qc53 b1),(ex59 b2),(ex60 b4),(6,136,qc38 b6)] (cB (cA (cB (cB (cB (cB (cB (cB (cF Tryz.f110))))))))) Q:=by
 unfold ref34_Next_j2 at h
 refine cn h (fun h=>?_) (fun h=>?_)
 ·obtain ⟨hc2,h⟩:=chk_of h
  refine rr [] [(3,rs32 [b6]),(4,rs32 ([b6]:List (S_fault_Gap)))] [] [1,2,4,5] [1,2,4,56] [(1,.own 1 0),(2,.own 2 0),(4,.own 4 0),(5,vb v5)] [(1,87,qc53 b1),(ex59 b2),(4,87,[.row 56,vi b4.f_More]),(56,136,[rc52 ([b6]:List (S_fault_Gap))])] [(MkOb 2 (qc38 b6) 1 (rs32 [b6]) ∧ GoodR (rs32 [b6])),_,(MkOb 2 (List.flatMap E_ref34_Gap ([b6]:List (S_fault_Gap))) (List.length ([b6]:List (S_fault_Gap))) (rs32 ([b6]:List (S_fault_Gap))) ∧ GoodR (rs32 ([b6]:List (S_fault_Gap))))] (AllP.cons (mkOb (by kernel_rfl) rfl (by kernel_rfl) (good_E_ref34_Gap _)) (AllP.cons hc2 (AllP.cons (mkOb rfl rfl rfl (good_E_ref34_Gap _)) AllP.nil))) (nt [1,2,4,5] [1,2,4,56] [(56,4240)] [1,2,4,5] [1,2,4,4240] [(1,.own 1 0),(2,.own 2 0),(4,.own 4 0),(5,vb v5)] [(1,87,qc53 b1),(ex59 b2),(ex62 b4),(4240,136,[rc52 ([b6]:List (S_fault_Gap))])] ?_)
  cases h
  exact hQ
 ·refine Wp.skip (kt [1,2,4,5] [1,2,4] [(1,.own 1 0),(2,.own 2 0),(4,.own 4 0),(5,vb v5)] [(1,87,qc53 b1),(ex59 b2),(ex60 b4)] (To.pre (St.vacantB 4 0 4240 136 (good_E_ref34_Gap _) (by decide) (by kernel_rfl) (L':=[(1,87,qc53 b1),(ex59 b2),(ex62 b4)]) (by kernel_rfl)) (kt [1,2,4,5] [1,2,4,4240] [(1,.own 1 0),(2,.own 2 0),(4,.own 4 0),(5,vb v5)] [(1,87,qc53 b1),(ex59 b2),(ex62 b4),(4240,136,[rc52 []])] ?_)))
  cases h
  exact hQ
def ref34_Next_l3 (n:Nat) (v5:Bool) (b1:S_ref34_Plan) (b2:S_ref34_Plan):Nat → Int → S_ref34_Plan → Option (S_ref34_Plan)
 | 0,_,_=>none
 | k + 1,v7,b4=>if (decide (v7 < (List.length b1.f_L:Int))) = true then (if (decide (0 ≤ v7 ∧ v7 < (List.length b1.f_L:Int))) = true then (if (decide ((List.length b4.f_L + List.length ([((b1.f_L)[Int.toNat v7]?.getD (S_fault_Gap.mk 0 0))]:List (S_fault_Gap))) * (16 + 1) ≤ limit)) = true then (ref34_Next_l3 n v5 b1 b2 k (IntKind.wrap .i64 (v7 + 1)) (S_ref34_Plan.mk (b4.f_L ++ ([((b1.f_L)[Int.toNat v7]?.getD (S_fault_Gap.mk 0 0))]:List (S_fault_Gap))) b4.f_More)) else none) else none)
 else some b4
theorem ok_ref34_Next_l3 (n:Nat) (v5:Bool) (b1:S_ref34_Plan) (b2:S_ref34_Plan) {F0:Fz} {w0:Pt Tryz.prog} {Q:Exit → Act → World → Prop} (k:Nat):∀ (v7:Int) (b4:S_ref34_Plan) (o:S_ref34_Plan),ref34_Next_l3 n v5 b1 b2 k v7 b4 = some o → To 77 F0 w0 [(2,.own 2 0),(4,.own 4 0),(5,vb v5)] [(2,87,qc53 b2),(ex62 o),(4240,136,[rc52 o.f_L])] (.exit 0) Q → WL Tryz.prog 77 F0 w0 [(1,.own 1 0),(2,.own 2 0),(4,.own 4 0),(5,vb v5),(7,vi v7)] [(1,87,qc53 b1),(2,87,qc53 b2),(ex62 b4),(4240,136,[rc52 b4.f_L])] (cI (cI (cB (cA (cB (cB (cB (cB (cB (cB (cB (cF Tryz.f110)))))))))))) Q:=by
 induction k with
 | zero=>intro v7 b4 o h; cases h
 | succ k ih =>
  intro v7 b4 o h hQ
  rw [ref34_Next_l3] at h
  refine WL.round (Wp.seq (Wp.seq (rg [1,2,4,5,7,62] [1,2,4,4240] [(1,.own 1 0),(2,.own 2 0),(4,.own 4 0),(5,vb v5),(7,vi v7),(62,vb (decide (v7 < (List.length b1.f_L:Int))))] [(1,87,qc53 b1),(2,87,qc53 b2),(ex62 b4),(4240,136,[rc52 b4.f_L])] (To.thenN (cn h (fun h=>?_) (fun h=>?_))))))
  ·refine Wp.skip (To.thenN (Wp.seq (Wp.block ?_)))
   obtain ⟨hc3,h⟩:=chk_of h
   obtain ⟨hc4,h⟩:=chk_of h
   refine Wp.regionD hm hΓ [(7,rs32 ([(ex74 b1 v7)])),(8,.row 73),(1008,rs32 (b4.f_L ++ (ex56 b1 v7)))] [1,2,4,5,7] [1,2,4,73] (K':=[(1,.own 1 0),(2,.own 2 0),(4,.own 4 0),(5,vb v5),(7,vi v7)]) (L':=[(1,87,qc53 b1),(2,87,qc53 b2),(4,87,[.row 73,vi b4.f_More]),(73,136,[rc52 (b4.f_L ++ (ex56 b1 v7))])]) (ob:=[(decide (0 ≤ v7 ∧ v7 < (List.length b1.f_L:Int))) = true,(true = true → MkOb 2 [vi ((ex74 b1 v7).f_Skip),vi ((ex74 b1 v7).f_Fail)] 1 (rs32 ([(ex74 b1 v7)])) ∧ GoodR (rs32 ([(ex74 b1 v7)]))),(decide ((List.length b4.f_L + List.length (ex56 b1 v7)) * (16 + 1) ≤ limit)) = true,(AppOb zx31 E_ref34_Gap b4.f_L (List.flatMap E_ref34_Gap (ex56 b1 v7)) (List.length (ex56 b1 v7)) (rs32 (b4.f_L ++ (ex56 b1 v7))) ∧ GoodR (rs32 (b4.f_L ++ (ex56 b1 v7))))]) (by kernel_rfl) (AllP.cons hc3 (AllP.cons (fun _=>mkOb (by kernel_rfl) rfl (by kernel_rfl) (good_E_ref34_Gap _)) (AllP.cons hc4 (AllP.cons (appOb rfl rfl (good_E_ref34_Gap _)) AllP.nil)))) (To.blockN (To.thenN (rg [1,2,4,5,7] [1,2,4,73] [(1,.own 1 0),(2,.own 2 0),(4,.own 4 0),(5,vb v5),(ex16 v7)] [(1,87,qc53 b1),(2,87,qc53 b2),(4,87,[.row 73,vi b4.f_More]),(73,136,[rc52 (b4.f_L ++ (ex56 b1 v7))])] (nt [1,2,4,5,7] [1,2,4,73] [(73,4240)] [1,2,4,5,7] [1,2,4,4240] [(1,.own 1 0),(2,.own 2 0),(4,.own 4 0),(5,vb v5),(ex16 v7)] [(1,87,qc53 b1),(2,87,qc53 b2),(ex62 b4),(4240,136,[rc52 (b4.f_L ++ (ex56 b1 v7))])] (To.again ?_)))))
   exact ih (IntKind.wrap .i64 (v7 + 1)) (S_ref34_Plan.mk (b4.f_L ++ (ex56 b1 v7)) b4.f_More) _ h hQ
  ·refine Wp.exit (To.thenX (To.thenX (kt [2,4,5] [2,4,4240] [(2,.own 2 0),(4,.own 4 0),(5,vb v5)] [(2,87,qc53 b2),(ex62 b4),(4240,136,[rc52 b4.f_L])] ?_)))
   cases h
   exact hQ
def ref34_Next (n:Nat) (a0:S_ref34_Plan):Option (S_ref34_Plan × Bool) :=
 if ((List.length a0.f_L:Int) == 0) = true then (if (decide (a0.f_More > 0)) = true then (some ((S_ref34_Plan.mk [] (IntKind.wrap .i64 (a0.f_More - 1))),false))
 else (some (a0,false)))
 else (if (decide (0 ≤ (0:Int) ∧ (0:Int) < (List.length a0.f_L:Int))) = true then (if (decide (0 ≤ (0:Int) ∧ (0:Int) < (List.length a0.f_L:Int))) = true then ((ref34_Next_j1 n ((((a0.f_L)[Int.toNat 0]?.getD (S_fault_Gap.mk 0 0)).f_Skip) == 0) ((((a0.f_L)[Int.toNat 0]?.getD (S_fault_Gap.mk 0 0)).f_Skip) == 0) a0 (S_ref34_Plan.mk [] 0) (S_ref34_Plan.mk [] a0.f_More) (S_fault_Gap.mk (IntKind.wrap .i64 ((((a0.f_L)[Int.toNat 0]?.getD (S_fault_Gap.mk 0 0)).f_Skip) - 1)) (((a0.f_L)[Int.toNat 0]?.getD (S_fault_Gap.mk 0 0)).f_Fail))).bind fun o1 =>
 (ref34_Next_j2 n ((((a0.f_L)[Int.toNat 0]?.getD (S_fault_Gap.mk 0 0)).f_Skip) == 0) (decide (o1.2.2.f_Fail > 0)) a0 (S_ref34_Plan.mk [] o1.1.f_More) (S_ref34_Plan.mk [] o1.2.1.f_More) o1.2.2).bind fun o2 =>
 (ref34_Next_l3 n ((((a0.f_L)[Int.toNat 0]?.getD (S_fault_Gap.mk 0 0)).f_Skip) == 0) a0 (S_ref34_Plan.mk [] o2.1.f_More) n 1 o2.2).bind fun o3 =>
 some (o3,((((a0.f_L)[Int.toNat 0]?.getD (S_fault_Gap.mk 0 0)).f_Skip) == 0))) else none) else none)
abbrev ex63 (x0:S_ref34_Plan):=(((x0.f_L)[Int.toNat 0]?.getD zx31).f_Skip)
abbrev ex64 (x0:S_ref34_Plan):=(((x0.f_L)[Int.toNat 0]?.getD zx31).f_Fail)
theorem ok_ref34_Next (n:Nat) (a0:S_ref34_Plan) (r:S_ref34_Plan × Bool) (h:ref34_Next n a0 = some r):CallsX Tryz.prog 110 [.agg (qc53 a0)] (.tup [.agg (qc53 r.1),vb r.2]):=by
 unfold ref34_Next at h
 refine xo Tryz.f110 rfl fun F0 w0 _=>?_
 refine Wp.seq (rg [1,2] [1,2] [(1,.own 1 0),(2,.own 2 0)] [(1,87,qc53 a0),(2,87,[.val (.slice none 0 0),vi 0])] (To.thenN (Wp.seq (Wp.seq (rg [1,2,11] [1,2] [(1,.own 1 0),(2,.own 2 0),(11,vb ((List.length a0.f_L:Int) == 0))] [(1,87,qc53 a0),(2,87,[.val (.slice none 0 0),vi 0])] (To.thenN (cn h (fun h=>?_) (fun h=>?_))))))))
 ·refine Wp.seq (Wp.seq (rg [1,2,14] [1,2] [(1,.own 1 0),(2,.own 2 0),(14,vb (decide (a0.f_More > 0)))] [(1,87,qc53 a0),(2,87,[.val (.slice none 0 0),vi 0])] (To.thenN (cn h (fun h=>?_) (fun h=>?_)))))
  ·refine Wp.seq (rg [2,3] [2] [(2,.own 2 0),(3,vb false)] [(2,87,[.val (.slice none 0 0),vi (IntKind.wrap .i64 (a0.f_More - 1))])] (To.thenN (Wp.ret (To.thenR (To.thenR (To.weak (K':=[(2,.own 2 0),(3,vb false)]) (L':=[(2,87,[rs32 [],vi (IntKind.wrap .i64 (a0.f_More - 1))])]) (.cons (.refl _) (.cons (.refl _) .nil)) (.cons (.cons (.zero _ _) (.cons (.refl _) .nil)) .nil) ?_))))))
   cases h
   exact To.done hΓ (by kernel_rfl)
  ·refine Wp.skip (To.thenN (Wp.seq (rg [2,3] [2] [(2,.own 2 0),(3,vb false)] [(2,87,qc53 a0)] (To.thenN (Wp.ret (To.thenR ?_))))))
   cases h
   exact To.done hΓ (by kernel_rfl)
 ·refine Wp.skip (To.thenN (Wp.seq (rg [1,2,4] [1,2,4] [(1,.own 1 0),(2,.own 2 0),(4,.own 4 0)] [(1,87,qc53 a0),(2,87,[.val (.slice none 0 0),vi 0]),(ex60 a0)] (To.thenN (Wp.seq ?_)))))
  obtain ⟨hc5,h⟩:=chk_of h
  refine r0 [1,2,4,5] [1,2,4] [(1,.own 1 0),(2,.own 2 0),(4,.own 4 0),(5,vb ((ex63 a0) == 0))] [(1,87,qc53 a0),(2,87,[.val (.slice none 0 0),vi 0]),(ex60 a0)] (AllP.cons hc5 AllP.nil) (To.thenN (Wp.seq ?_))
  obtain ⟨hc4,h⟩:=chk_of h
  refine Wp.regionD hm hΓ [] [1,2,4,5,6] [1,2,4,6] (K':=[(1,.own 1 0),(2,.own 2 0),(4,.own 4 0),(5,vb ((ex63 a0) == 0)),(6,.own 6 0)]) (L':=[(1,87,qc53 a0),(2,87,[.val (.slice none 0 0),vi 0]),(ex60 a0),(6,136,[vi (IntKind.wrap .i64 ((ex63 a0) - 1)),vi (ex64 a0)])]) (ob:=[(ex61 a0) = true,(ex61 a0) = true]) (by kernel_rfl) (AllP.cons hc4 (AllP.cons hc4 AllP.nil)) (To.thenN (Wp.seq (Wp.seq (rg [1,2,4,5,6,41] [1,2,4,6] [(1,.own 1 0),(2,.own 2 0),(4,.own 4 0),(5,vb ((ex63 a0) == 0)),(6,.own 6 0),(41,vb ((ex63 a0) == 0))] [(1,87,qc53 a0),(2,87,[.val (.slice none 0 0),vi 0]),(ex60 a0),(6,136,[vi (IntKind.wrap .i64 ((ex63 a0) - 1)),vi (ex64 a0)])] (To.thenN ?_)))))
  obtain ⟨o1,ho1,h⟩:=bind_of h
  refine kw [1,2,4,5,6,41] [1,2,4,6] [(1,.own 1 0),(2,.own 2 0),(4,.own 4 0),(5,vb ((ex63 a0) == 0)),(6,.own 6 0),(41,vb ((ex63 a0) == 0))] [(1,87,qc53 a0),(2,87,[.val (.slice none 0 0),vi 0]),(ex60 a0),(6,136,[vi (IntKind.wrap .i64 ((ex63 a0) - 1)),vi (ex64 a0)])] (ok_ref34_Next_j1 n ((ex63 a0) == 0) ((ex63 a0) == 0) a0 zx50 (S_ref34_Plan.mk [] a0.f_More) (S_fault_Gap.mk (IntKind.wrap .i64 ((ex63 a0) - 1)) (ex64 a0)) o1 ho1 (To.thenN (Wp.seq (Wp.seq (rg [1,2,4,5,6,51] [1,2,4,6] [(1,.own 1 0),(2,.own 2 0),(4,.own 4 0),(5,vb ((ex63 a0) == 0)),(6,.own 6 0),(51,vb (decide (o1.2.2.f_Fail > 0)))] [(1,87,qc53 a0),(2,87,[.val (.slice none 0 0),vi o1.1.f_More]),(4,87,[.val (.slice none 0 0),vi o1.2.1.f_More]),(6,136,qc38 o1.2.2)] (To.thenN ?_))))))
  obtain ⟨o2,ho2,h⟩:=bind_of h
  refine kw [1,2,4,5,6,51] [1,2,4,6] [(1,.own 1 0),(2,.own 2 0),(4,.own 4 0),(5,vb ((ex63 a0) == 0)),(6,.own 6 0),(51,vb (decide (o1.2.2.f_Fail > 0)))] [(1,87,qc53 a0),(2,87,[.val (.slice none 0 0),vi o1.1.f_More]),(4,87,[.val (.slice none 0 0),vi o1.2.1.f_More]),(6,136,qc38 o1.2.2)] (ok_ref34_Next_j2 n ((ex63 a0) == 0) (decide (o1.2.2.f_Fail > 0)) a0 (S_ref34_Plan.mk [] o1.1.f_More) (S_ref34_Plan.mk [] o1.2.1.f_More) o1.2.2 o2 ho2 (To.thenN (Wp.seq (Wp.seq (rg [1,2,4,5,7] [1,2,4,4240] [(1,.own 1 0),(2,.own 2 0),(4,.own 4 0),(5,vb ((ex63 a0) == 0)),(7,vi 1)] [(1,87,qc53 a0),(2,87,[.val (.slice none 0 0),vi o2.1.f_More]),(4,87,[.row 4240,vi o2.2.f_More]),(4240,136,[rc52 o2.2.f_L])] (To.thenN (Wp.block ?_)))))))
  obtain ⟨o3,ho3,h⟩:=bind_of h
  refine kw [1,2,4,5,7] [1,2,4,4240] [(1,.own 1 0),(2,.own 2 0),(4,.own 4 0),(5,vb ((ex63 a0) == 0)),(7,vi 1)] [(1,87,qc53 a0),(2,87,[.val (.slice none 0 0),vi o2.1.f_More]),(4,87,[.row 4240,vi o2.2.f_More]),(4240,136,[rc52 o2.2.f_L])] (Wp.weak (K':=[(1,.own 1 0),(2,.own 2 0),(4,.own 4 0),(5,vb ((ex63 a0) == 0)),(7,vi 1)]) (L':=[(1,87,qc53 a0),(2,87,[rs32 [],vi o2.1.f_More]),(4,87,[.row 4240,vi o2.2.f_More]),(4240,136,[rc52 o2.2.f_L])]) (.cons (.refl _) (.cons (.refl _) (.cons (.refl _) (.cons (.refl _) (.cons (.refl _) .nil))))) (.cons (.cons (.refl _) (.cons (.refl _) .nil)) (.cons (.cons (.zero _ _) (.cons (.refl _) .nil)) (.cons (.cons (.refl _) (.cons (.refl _) .nil)) (.cons (.cons (.refl _) .nil) .nil)))) (Wp.loopL (ok_ref34_Next_l3 n ((ex63 a0) == 0) a0 (S_ref34_Plan.mk [] o2.1.f_More) n 1 o2.2 o3 ho3 (To.blockX (To.thenN (Wp.seq (rg [2,3] [2,4240] [(2,.own 2 0),(3,vb ((ex63 a0) == 0))] [(2,87,[.row 4240,vi o3.f_More]),(4240,136,[rc52 o3.f_L])] (To.thenN (Wp.ret (To.pre (St.settle (ks:=[4240]) (kk:=[2,3]) (kl:=[2,4240]) (K':=[(2,.own 2 0),(3,vb ((ex63 a0) == 0))]) (L':=[(2,87,[.row 4240,vi o3.f_More]),(4240,136,[rc54 o3.f_L])]) (by kernel_rfl)) ?_))))))))))
  refine To.pre (St.sealB [2] (L':=[(2,87,qc53 o3),(4240,136,[rc54 o3.f_L])]) (by kernel_rfl)) ?_
  cases h
  exact To.done hΓ (by kernel_rfl)
def ref35_Call (n:Nat) (a0:S_ref35_Host) (a1:S_api_Call):Option (S_ref35_Host × Int × Int) :=
 (ref34_Next n a0.f_Plan).bind fun r1 =>
 if r1.2 = true then (some ((S_ref35_Host.mk a0.f_S r1.1 a0.f_Now),0,15))
 else ((ref33_Do n a0.f_S a1 a0.f_Now).bind fun r2 =>
 some ((S_ref35_Host.mk r2.1 r1.1 a0.f_Now),r2.2.1,r2.2.2))
theorem ok_ref35_Call (n:Nat) (a0:S_ref35_Host) (a1:S_api_Call) (r:S_ref35_Host × Int × Int) (h:ref35_Call n a0 a1 = some r):CallsX Tryz.prog 79 [.agg (qc47 a0),.agg (qc6 a1)] (.tup [.agg (qc47 r.1),vi r.2.1,vi r.2.2]):=by
 unfold ref35_Call at h
 refine xo Tryz.f79 rfl fun F0 w0 _=>?_
 refine Wp.seq (rg [2,3,4] [2,3,4] [(2,.own 2 0),(3,.own 3 0),(4,.own 4 0)] [(2,89,(E_ref35_Host a0)),(3,40,(E_api_Call a1)),(4,89,[.val (.slice none 0 0),.val (.slice none 0 0),.val (.slice none 0 0),vi 0,.val (.slice none 0 0),vi 0,vi 0])] (To.thenN (Wp.seq ?_)))
 obtain ⟨r1,hr1,h⟩:=bind_of h
 refine rc [] 2 [2,3,4,7,8] [2,3,4,7] [(2,.own 2 0),(3,.own 3 0),(4,.own 4 0),(7,.own 7 0),(8,vb r1.2)] [(2,89,(E_ref35_Host a0)),(3,40,(E_api_Call a1)),(4,89,[.val (.slice none 0 0),.val (.slice none 0 0),.val (.slice none 0 0),vi 0,.val (.slice none 0 0),vi 0,vi 0]),(7,87,qc53 r1.1)] (ok_ref34_Next n a0.f_Plan _ hr1) (To.thenN (Wp.seq (rg [2,3,4,8] [2,3,4] [(2,.own 2 0),(3,.own 3 0),(4,.own 4 0),(8,vb r1.2)] [(2,89,(List.set (List.set (E_ref35_Host a0) 4 (rs32 r1.1.f_L)) 5 (vi r1.1.f_More))),(3,40,(E_api_Call a1)),(4,89,[.val (.slice none 0 0),.val (.slice none 0 0),.val (.slice none 0 0),vi 0,.val (.slice none 0 0),vi 0,vi 0])] (To.thenN (Wp.seq (Wp.seq (rg [2,3,4,20] [2,3,4] [(2,.own 2 0),(3,.own 3 0),(4,.own 4 0),(20,vb r1.2)] [(2,89,(List.set (List.set (E_ref35_Host a0) 4 (rs32 r1.1.f_L)) 5 (vi r1.1.f_More))),(3,40,(E_api_Call a1)),(4,89,[.val (.slice none 0 0),.val (.slice none 0 0),.val (.slice none 0 0),vi 0,.val (.slice none 0 0),vi 0,vi 0])] (To.thenN (cn h (fun h=>?_) (fun h=>?_))))))))))
 ·refine Wp.seq (rg [4,5,6] [4] [(4,.own 4 0),(5,vi 0),(6,vi 15)] [(4,89,(List.set (List.set (E_ref35_Host a0) 4 (rs32 r1.1.f_L)) 5 (vi r1.1.f_More)))] (To.thenN (Wp.ret (To.thenR ?_))))
  cases h
  exact To.done hΓ (by kernel_rfl)
 ·refine Wp.skip (To.thenN (Wp.seq ?_))
  obtain ⟨r2,hr2,h⟩:=bind_of h
  refine rc [] 5 [2,4,9,10,11] [2,4,9] [(2,.own 2 0),(4,.own 4 0),(9,.own 9 0),(10,vi r2.2.1),(11,vi r2.2.2)] [(2,89,(List.set (List.set (E_ref35_Host a0) 4 (rs32 r1.1.f_L)) 5 (vi r1.1.f_More))),(4,89,[.val (.slice none 0 0),.val (.slice none 0 0),.val (.slice none 0 0),vi 0,.val (.slice none 0 0),vi 0,vi 0]),(9,30,qc20 r2.1)] (ok_ref33_Do n a0.f_S a1 a0.f_Now _ hr2) (To.thenN (Wp.seq (rg [2,4,10,11] [2,4] [(2,.own 2 0),(4,.own 4 0),(10,vi r2.2.1),(11,vi r2.2.2)] [(2,89,[rs19 r2.1.f_Boxes,rs16 r2.1.f_Nets,rs16 r2.1.f_Vols,vi r2.1.f_Last,rs32 r1.1.f_L,vi r1.1.f_More,vi a0.f_Now]),(4,89,[.val (.slice none 0 0),.val (.slice none 0 0),.val (.slice none 0 0),vi 0,.val (.slice none 0 0),vi 0,vi 0])] (To.thenN (Wp.seq (rg [4,5,6] [4] [(4,.own 4 0),(5,vi r2.2.1),(6,vi r2.2.2)] [(4,89,[rs19 r2.1.f_Boxes,rs16 r2.1.f_Nets,rs16 r2.1.f_Vols,vi r2.1.f_Last,rs32 r1.1.f_L,vi r1.1.f_More,vi a0.f_Now])] (To.thenN (Wp.ret ?_))))))))
  cases h
  exact To.done hΓ (by kernel_rfl)
def law35_step__o0_j2 (n:Nat) (v21:Int) (v60:Bool) (b4:S_ref35_Host) (b5:S_law35_Deed) (b6:S_ref35_Host) (b1000000:S_host_Host):Option (Bool) :=
 if v60 = true then some v60
 else (some (v21 == 8))
abbrev ex65 (x0:S_ref35_Host) (x1:S_law35_Deed) (x2:S_ref35_Host) (x3:S_host_Host):=((4,89,(E_ref35_Host x0))::(5,75,(E_law35_Deed x1))::(6,89,(E_ref35_Host x2))::qh39 1000000 1010060 1010061 1010062 1010063 x3)
theorem ok_law35_step__o0_j2 (n:Nat) (v21:Int) (v60:Bool) (b4:S_ref35_Host) (b5:S_law35_Deed) (b6:S_ref35_Host) (b1000000:S_host_Host) (o:Bool) (h:law35_step__o0_j2 n v21 v60 b4 b5 b6 b1000000 = some o) {F0:Fz} {w0:Pt Tryz.prog} {Q:Exit → Act → World → Prop} (hQ:To 125 F0 w0 [(0,.own 1000000 0),(4,.own 4 0),(5,.own 5 0),(6,.own 6 0),(21,vi v21),(60,vb o)] (ex65 b4 b5 b6 b1000000) .normal Q):Wp Tryz.prog 125 F0 w0 [(0,.own 1000000 0),(4,.own 4 0),(5,.own 5 0),(6,.own 6 0),(21,vi v21),(60,vb v60)] (ex65 b4 b5 b6 b1000000) (cB (cA (cE (cB (cE (cB (cI (cB (cA (cB (cF Tryz.f42))))))))))) Q:=by
 unfold law35_step__o0_j2 at h
 refine cn h (fun h=>?_) (fun h=>?_)
 ·refine Wp.skip (kt [0,4,5,6,21,60] [4,5,6,1000000,1010060,1010061,1010062,1010063] [(0,.own 1000000 0),(4,.own 4 0),(5,.own 5 0),(6,.own 6 0),(21,vi v21),(60,vb v60)] (ex65 b4 b5 b6 b1000000) ?_)
  cases h
  exact hQ
 ·refine rg [0,4,5,6,21,60] [4,5,6,1000000,1010060,1010061,1010062,1010063] [(0,.own 1000000 0),(4,.own 4 0),(5,.own 5 0),(6,.own 6 0),(21,vi v21),(60,vb (v21 == 8))] (ex65 b4 b5 b6 b1000000) (kt [0,4,5,6,21,60] [4,5,6,1000000,1010060,1010061,1010062,1010063] [(0,.own 1000000 0),(4,.own 4 0),(5,.own 5 0),(6,.own 6 0),(21,vi v21),(60,vb (v21 == 8))] (ex65 b4 b5 b6 b1000000) ?_)
  cases h
  exact hQ
def law35_step__o0_j1 (n:Nat) (v21:Int) (b4:S_ref35_Host) (b5:S_law35_Deed) (b6:S_ref35_Host) (b1000000:S_host_Host):Option (Sum (S_ref35_Host × S_host_Host) (Bool × S_ref35_Host × S_host_Host)) :=
 if (v21 == 5) = true then ((ref35_Tick n b4 b5.f_N).bind fun r1 =>
 (host_Host_Tick__o0 n b5.f_N b1000000).bind fun r2 =>
 (law35_Events n r2.1).bind fun r3 =>
 (ref35_Same n r3 r1.2).bind fun r4 =>
 some (.inr (r4,r1.1,r2.2)))
 else (if (v21 == 6) = true then ((ref35_Exit n b4 b5.f_N b5.f_M).bind fun r5 =>
 (host_Host_Exit__o0 n b5.f_N b5.f_M b1000000).bind fun r6 =>
 (law35_Events n r6.1).bind fun r7 =>
 (ref35_Same n r7 r5.2).bind fun r8 =>
 some (.inr (r8,r5.1,r6.2)))
 else ((law35_step__o0_j2 n v21 (v21 == 7) b4 b5 b6 b1000000).bind fun o9 =>
 if o9 = true then (if ((10 != 0)) = true then ((ref35_Sick n b4 b5.f_N ((Int.tmod b5.f_Kind 10) == 7)).bind fun r10 =>
 if ((10 != 0)) = true then ((host_Host_Sick__o0 n b5.f_N ((Int.tmod b5.f_Kind 10) == 7) b1000000).bind fun r11 =>
 some (.inr ((r11.1 == r10.2),r10.1,r11.2))) else none) else none)
 else (if (v21 == 9) = true then ((host_Host_Fault__o0 n (S_fault_Gap.mk b5.f_N b5.f_M) b1000000).bind fun r14 =>
 (ref35_Fault n b4 (S_fault_Gap.mk b5.f_N b5.f_M)).bind fun r15 =>
 some (.inr (true,r15,r14)))
 else (some (.inl (b6,b1000000))))))
end Go.Proofs.YtaecmkldkljioaaGreat.M
