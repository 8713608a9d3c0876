import Derived.Test.YtibgdilkodjojaaDoorQM12a
set_option linter.all false
namespace Go.Proofs.YtibgdilkodjojaaDoor.M
open Go.RowKit Go.Proofs.YtibgdilkodjojaaDoor.RX
set_option maxRecDepth 100000
def ref06_Scan (n:Nat) (a0:List UInt8) (a1:Int):Option ((List UInt8) × Int × Int) :=
 if ((!((bif (decide (a1 < 0)) then true else (decide (a1 ≥ (List.length a0:Int)))) == false) || decide (0 ≤ a1 ∧ a1 < (List.length a0:Int)))) = true then (if ((!((((((a0)[Int.toNat a1]?.getD 0).toNat:Int) != 34) == true) && ((bif (decide (a1 < 0)) then true else (decide (a1 ≥ (List.length a0:Int)))) == false)) || decide (0 ≤ a1 ∧ a1 < (List.length a0:Int)))) = true then (lett ((bif (bif (decide (a1 < 0)) then true else (decide (a1 ≥ (List.length a0:Int)))) then true else (bif ((((a0)[Int.toNat a1]?.getD 0).toNat:Int) != 34) then ((((a0)[Int.toNat a1]?.getD 0).toNat:Int) != 39) else false)):Bool) fun x1 =>
 if x1 = true then (some ([],0,2))
 else (if (decide (0 ≤ a1 ∧ a1 < (List.length a0:Int))) = true then ((ref06_Scan_j1 n a0 a1 ((((a0)[Int.toNat a1]?.getD 0).toNat:Int) == 34)).bind fun o2 =>
 if (!o2.2.2) = true then (some ([],0,3))
 else (some (o2.1,o2.2.1,0))) else none)) else none) else none
theorem ok_ref06_Scan (n:Nat) (a0:List UInt8) (a1:Int) (r:(List UInt8) × Int × Int) (h:ref06_Scan n a0 a1 = some r):CallsX Tryd.prog 105 [.str a0,vi a1] (.tup [.str r.1,vi r.2.1,vi r.2.2]):=by
 unfold ref06_Scan at h
 refine xo Tryd.f105 rfl fun F0 w0 _=>?_
 refine Wp.seq (rg [0,1] [] [(0,.str a0),(1,vi a1)] [] (To.thenN (Wp.seq (Wp.seq ?_))))
 obtain ⟨hc4,h⟩:=chk_of h
 obtain ⟨hc5,h⟩:=chk_of h
 obtain ⟨x1,hx1,h⟩:=lett_of h
 refine r0 [0,1,29] [] [(0,.str a0),(1,vi a1),(29,vb (bif (bif (decide (a1 < 0)) then true else (decide (a1 ≥ (List.length a0:Int)))) then true else (bif ((ex11 a0 a1) != 34) then ((ex11 a0 a1) != 39) else false)))] [] (AllP.cons hc4 (AllP.cons hc5 AllP.nil)) (To.eq (K':=[(0,.str a0),(1,vi a1),(29,vb x1)]) (L':=[]) (by cases hx1; rfl) (by cases hx1; rfl) (To.thenN (cn h (fun h=>?_) (fun h=>?_))))
 ·refine Wp.seq (rg [4,5,6] [] [(4,.str []),(5,vi 0),(6,vi 2)] [] (To.thenN (Wp.ret (To.thenR ?_))))
  cases h
  exact To.done hΓ (by kernel_rfl)
 ·refine Wp.skip (To.thenN (Wp.seq (rg [0,1] [] [(0,.str a0),(1,vi a1)] [] (To.thenN (Wp.seq (rg [0,1] [] [(0,.str a0),(1,vi a1)] [] (To.thenN (Wp.seq (rg [0,1] [] [(0,.str a0),(1,vi a1)] [] (To.thenN (Wp.seq (Wp.seq ?_))))))))))))
  obtain ⟨hc3,h⟩:=chk_of h
  refine r0 [0,1,33] [] [(0,.str a0),(1,vi a1),(33,vb ((ex11 a0 a1) == 34))] [] (AllP.cons hc3 AllP.nil) (To.thenN ?_)
  obtain ⟨o2,ho2,h⟩:=bind_of h
  refine kw [0,1,33] [] [(0,.str a0),(1,vi a1),(33,vb ((ex11 a0 a1) == 34))] [] (ok_ref06_Scan_j1 n a0 a1 ((ex11 a0 a1) == 34) o2 ho2 (To.thenN (Wp.seq (Wp.seq (rg [7,8,51] [] [(7,.str o2.1),(8,vi o2.2.1),(51,vb (!o2.2.2))] [] (To.thenN (cn h (fun h=>?_) (fun h=>?_))))))))
  ·refine Wp.seq (rg [4,5,6] [] [(4,.str []),(5,vi 0),(6,vi 3)] [] (To.thenN (Wp.ret (To.thenR ?_))))
   cases h
   exact To.done hΓ (by kernel_rfl)
  ·refine Wp.skip (To.thenN (Wp.seq (rg [4,5,6] [] [(4,.str o2.1),(5,vi o2.2.1),(6,vi 0)] [] (To.thenN (Wp.ret ?_)))))
   cases h
   exact To.done hΓ (by kernel_rfl)
def ref12_value_l1 (n:Nat) (v0:List UInt8) (v4:List UInt8) (v5:Int):Nat → Int → Option (Int)
 | 0,_=>none
 | k + 1,v7=>if ((!((decide (v7 < (List.length v0:Int))) == true) || decide (0 ≤ v7 ∧ v7 < (List.length v0:Int)))) = true then (if (bif (decide (v7 < (List.length v0:Int))) then ((((v0)[Int.toNat v7]?.getD 0).toNat:Int) == 32) else false) = true then (ref12_value_l1 n v0 v4 v5 k (IntKind.wrap .i64 (v7 + 1)))
 else some v7) else none
theorem ok_ref12_value_l1 (n:Nat) (v0:List UInt8) (v4:List UInt8) (v5:Int) {F0:Fz} {w0:Pt Tryd.prog} {Q:Exit → Act → World → Prop} (k:Nat):∀ (v7:Int) (o:Int),ref12_value_l1 n v0 v4 v5 k v7 = some o → To 98 F0 w0 [(0,.str v0),(4,.str v4),(5,vi v5),(7,vi o)] [] (.exit 0) Q → WL Tryd.prog 98 F0 w0 [(0,.str v0),(4,.str v4),(5,vi v5),(7,vi v7)] [] (cI (cI (cA (cB (cB (cB (cT (cB (cA (cB (cF Tryd.f66))))))))))) Q:=by
 induction k with
 | zero=>intro v7 o h; cases h
 | succ k ih =>
  intro v7 o h hQ
  rw [ref12_value_l1] at h
  refine WL.round (Wp.seq (Wp.seq ?_))
  obtain ⟨hc3,h⟩:=chk_of h
  refine r0 [0,4,5,7,42] [] [(0,.str v0),(4,.str v4),(5,vi v5),(7,vi v7),(42,vb (bif (ex12 v7 v0) then ((ex11 v0 v7) == 32) else false))] [] (AllP.cons hc3 AllP.nil) (To.thenN (cn h (fun h=>?_) (fun h=>?_)))
  ·refine Wp.skip (To.thenN (Wp.block (rg [0,4,5,7] [] [(0,.str v0),(4,.str v4),(5,vi v5),(7,vi (IntKind.wrap .i64 (v7 + 1)))] [] (To.blockN (To.again ?_)))))
   exact ih (IntKind.wrap .i64 (v7 + 1)) _ h hQ
  ·refine Wp.exit (To.thenX (To.thenX (kt [0,4,5,7] [] [(0,.str v0),(4,.str v4),(5,vi v5),(7,vi v7)] [] ?_)))
   cases h
   exact hQ
def ref12_value_j3 (n:Nat) (v0:List UInt8) (v8:Int) (v9:Int):Option (Int) :=
 if (decide (0 ≤ v9 ∧ v9 < (List.length v0:Int))) = true then (if ((!(((((v0)[Int.toNat v9]?.getD 0).toNat:Int) == 32) == true) || decide (0 ≤ (IntKind.wrap .i64 (v9 + 1)) ∧ (IntKind.wrap .i64 (v9 + 1)) < (List.length v0:Int)))) = true then (lett ((bif ((((v0)[Int.toNat v9]?.getD 0).toNat:Int) == 32) then ((((v0)[Int.toNat (IntKind.wrap .i64 (v9 + 1))]?.getD 0).toNat:Int) == 35) else false):Bool) fun x6 =>
 if x6 = true then some v9
 else some v8) else none) else none
theorem ok_ref12_value_j3 (n:Nat) (v0:List UInt8) (v8:Int) (v9:Int) (o:Int) (h:ref12_value_j3 n v0 v8 v9 = some o) {F0:Fz} {w0:Pt Tryd.prog} {Q:Exit → Act → World → Prop} (hQ:To 98 F0 w0 [(0,.str v0),(8,vi o),(9,vi v9)] [] .normal Q):Wp Tryd.prog 98 F0 w0 [(0,.str v0),(8,vi v8),(9,vi v9)] [] (cA (cB (cI (cI (cB (cA (cB (cB (cB (cF Tryd.f66)))))))))) Q:=by
 unfold ref12_value_j3 at h
 refine Wp.block (Wp.seq ?_)
 obtain ⟨hc7,h⟩:=chk_of h
 obtain ⟨hc8,h⟩:=chk_of h
 obtain ⟨x6,hx6,h⟩:=lett_of h
 refine r0 [0,8,9,80] [] [(0,.str v0),(8,vi v8),(9,vi v9),(80,vb (bif ((ex11 v0 v9) == 32) then (((ex14 v0 v9).toNat:Int) == 35) else false))] [] (AllP.cons hc7 (AllP.cons hc8 AllP.nil)) (To.eq (K':=[(0,.str v0),(8,vi v8),(9,vi v9),(80,vb x6)]) (L':=[]) (by cases hx6; rfl) (by cases hx6; rfl) (To.thenN (cn h (fun h=>?_) (fun h=>?_))))
 ·refine rg [0,8,9] [] [(0,.str v0),(8,vi v9),(9,vi v9)] [] (To.blockN ?_)
  cases h
  exact hQ
 ·refine Wp.skip (To.blockN (kt [0,8,9] [] [(0,.str v0),(8,vi v8),(9,vi v9)] [] ?_))
  cases h
  exact hQ
def ref12_value_l2 (n:Nat) (v0:List UInt8):Nat → Int → Int → Option (Int)
 | 0,_,_=>none
 | k + 1,v8,v9=>if (decide (v9 ≥ 0)) = true then ((ref12_value_j3 n v0 v8 v9).bind fun o6 =>
 ref12_value_l2 n v0 k o6 (IntKind.wrap .i64 (v9 - 1)))
 else some v8
theorem ok_ref12_value_l2 (n:Nat) (v0:List UInt8) {F0:Fz} {w0:Pt Tryd.prog} {Q:Exit → Act → World → Prop} (k:Nat):∀ (v8:Int) (v9:Int) (o:Int),ref12_value_l2 n v0 k v8 v9 = some o → To 98 F0 w0 [(0,.str v0),(8,vi o)] [] (.exit 2) Q → WL Tryd.prog 98 F0 w0 [(0,.str v0),(8,vi v8),(9,vi v9)] [] (cI (cI (cB (cA (cB (cB (cB (cF Tryd.f66)))))))) Q:=by
 induction k with
 | zero=>intro v8 v9 o h; cases h
 | succ k ih =>
  intro v8 v9 o h hQ
  rw [ref12_value_l2] at h
  refine WL.round (Wp.seq (Wp.seq (rg [0,8,9,67] [] [(0,.str v0),(8,vi v8),(9,vi v9),(67,vb (decide (v9 ≥ 0)))] [] (To.thenN (cn h (fun h=>?_) (fun h=>?_))))))
  ·refine Wp.skip (To.thenN (Wp.seq ?_))
   obtain ⟨o6,ho6,h⟩:=bind_of h
   refine kw [0,8,9] [] [(0,.str v0),(8,vi v8),(9,vi v9)] [] (ok_ref12_value_j3 n v0 v8 v9 o6 ho6 (To.thenN (rg [0,8,9] [] [(0,.str v0),(8,vi o6),(9,vi (IntKind.wrap .i64 (v9 - 1)))] [] (kt [0,8,9] [] [(0,.str v0),(8,vi o6),(9,vi (IntKind.wrap .i64 (v9 - 1)))] [] (To.again ?_)))))
   exact ih o6 (IntKind.wrap .i64 (v9 - 1)) _ h hQ
  ·refine Wp.exit (To.thenX (To.thenX (kt [0,8] [] [(0,.str v0),(8,vi v8)] [] ?_)))
   cases h
   exact hQ
def ref12_value_l4 (n:Nat) (v0:List UInt8):Nat → Int → Option (Sum (Unit) ((List UInt8) × Bool))
 | 0,_=>none
 | k + 1,v10=>if (decide (v10 < (List.length v0:Int))) = true then (if (decide (0 ≤ v10 ∧ v10 < (List.length v0:Int))) = true then (if (!(ref06_Good (((v0)[Int.toNat v10]?.getD 0).toNat:Int))) = true then (some (.inr ([],false)))
 else (ref12_value_l4 n v0 k (IntKind.wrap .i64 (v10 + 1)))) else none)
 else (some (.inl ()))
theorem ok_ref12_value_l4 (n:Nat) (v0:List UInt8) {F0:Fz} {w0:Pt Tryd.prog} {Q:Exit → Act → World → Prop} (k:Nat):∀ (v10:Int) (o:Sum (Unit) ((List UInt8) × Bool)),ref12_value_l4 n v0 k v10 = some o → (Sum.elim (fun s=>To 98 F0 w0 [(0,.str v0)] [] (.exit 4) Q) (fun s=>To 98 F0 w0 [(2,.str s.1),(3,vb s.2)] [] .ret Q)) o → WL Tryd.prog 98 F0 w0 [(0,.str v0),(10,vi v10)] [] (cI (cI (cB (cA (cB (cB (cB (cB (cB (cF Tryd.f66)))))))))) Q:=by
 induction k with
 | zero=>intro v10 o h; cases h
 | succ k ih =>
  intro v10 o h hQ
  rw [ref12_value_l4] at h
  refine WL.round (Wp.seq (Wp.seq (rg [0,10,89] [] [(0,.str v0),(10,vi v10),(89,vb (ex12 v10 v0))] [] (To.thenN (cn h (fun h=>?_) (fun h=>?_))))))
  ·refine Wp.skip (To.thenN (Wp.seq (Wp.block (Wp.seq ?_))))
   obtain ⟨hc8,h⟩:=chk_of h
   refine rr [] [(3,vb (ref06_Good (ex11 v0 v10)))] [] [0,10,96] [] [(0,.str v0),(10,vi v10),(96,vb (!(ref06_Good (ex11 v0 v10))))] [] [_,_] (AllP.cons hc8 (AllP.cons (c1 (ok_ref06_Good (ex11 v0 v10) _ rfl)) AllP.nil)) (To.thenN (cn h (fun h=>?_) (fun h=>?_)))
   ·refine Wp.seq (rg [2,3] [] [(2,.str []),(3,vb false)] [] (To.thenN (Wp.ret (To.blockR (To.thenR (To.thenR ?_))))))
    cases h
    exact hQ
   ·refine Wp.skip (To.blockN (To.thenN (rg [0,10] [] [(0,.str v0),(ex2 v10)] [] (kt [0,10] [] [(0,.str v0),(ex2 v10)] [] (To.again ?_)))))
    exact ih (IntKind.wrap .i64 (v10 + 1)) _ h hQ
  ·refine Wp.exit (To.thenX (To.thenX (kt [0] [] [(0,.str v0)] [] ?_)))
   cases h
   exact hQ
def ref12_value (n:Nat) (a0:List UInt8):Option ((List UInt8) × Bool) :=
 if ((!((decide ((List.length a0:Int) > 0)) == true) || decide (0 ≤ (0:Int) ∧ (0:Int) < (List.length a0:Int)))) = true then (if ((!((((((a0)[Int.toNat 0]?.getD 0).toNat:Int) == 34) == false) && ((decide ((List.length a0:Int) > 0)) == true)) || decide (0 ≤ (0:Int) ∧ (0:Int) < (List.length a0:Int)))) = true then (lett ((bif (decide ((List.length a0:Int) > 0)) then (bif ((((a0)[Int.toNat 0]?.getD 0).toNat:Int) == 34) then true else ((((a0)[Int.toNat 0]?.getD 0).toNat:Int) == 39)) else false):Bool) fun x1 =>
 if x1 = true then ((ref06_Scan n a0 0).bind fun r2 =>
 if (r2.2.2 != 0) = true then (some ([],false))
 else ((ref12_value_l1 n a0 r2.1 r2.2.1 n r2.2.1).bind fun o3 =>
 if ((!(((decide (o3 > r2.2.1)) == true) && ((o3 == (List.length a0:Int)) == false)) || decide (0 ≤ o3 ∧ o3 < (List.length a0:Int)))) = true then (lett ((bif (o3 == (List.length a0:Int)) then true else (bif (decide (o3 > r2.2.1)) then ((((a0)[Int.toNat o3]?.getD 0).toNat:Int) == 35) else false)):Bool) fun x4 =>
 if x4 = true then (some (r2.1,true))
 else (some ([],false))) else none))
 else ((ref12_value_l2 n a0 n (List.length a0:Int) (IntKind.wrap .i64 ((List.length a0:Int) - 2))).bind fun o6 =>
 if (decide (0 ≤ o6 ∧ o6 ≤ (List.length a0:Int))) = true then ((ref12_trim n (List.take (Int.toNat o6) a0)).bind fun r7 =>
 (ref12_value_l4 n r7 n 0).bind fun o8 =>
 (Sum.elim (fun o8=>some (r7,true)) (fun o8=>some (o8.1,o8.2))) o8) else none)) else none) else none
theorem ok_ref12_value (n:Nat) (a0:List UInt8) (r:(List UInt8) × Bool) (h:ref12_value n a0 = some r):CallsX Tryd.prog 66 [.str a0] (.tup [.str r.1,vb r.2]):=by
 unfold ref12_value at h
 refine xo Tryd.f66 rfl fun F0 w0 _=>?_
 refine Wp.seq (rg [0] [] [(0,.str a0)] [] (To.thenN (Wp.seq (Wp.seq ?_))))
 obtain ⟨hc10,h⟩:=chk_of h
 obtain ⟨hc11,h⟩:=chk_of h
 obtain ⟨x1,hx1,h⟩:=lett_of h
 refine r0 [0,23] [] [(0,.str a0),(23,vb (bif (ex8 a0) then (bif ((((a0)[Int.toNat 0]?.getD 0).toNat:Int) == 34) then true else ((((a0)[Int.toNat 0]?.getD 0).toNat:Int) == 39)) else false))] [] (AllP.cons hc10 (AllP.cons hc11 AllP.nil)) (To.eq (K':=[(0,.str a0),(23,vb x1)]) (L':=[]) (by cases hx1; rfl) (by cases hx1; rfl) (To.thenN (cn h (fun h=>?_) (fun h=>?_))))
 ·refine Wp.seq ?_
  obtain ⟨r2,hr2,h⟩:=bind_of h
  refine rc [] 1 [0,4,5,6] [] [(0,.str a0),(4,.str r2.1),(5,vi r2.2.1),(6,vi r2.2.2)] [] (ok_ref06_Scan n a0 0 _ hr2) (To.thenN (Wp.seq (Wp.seq (rg [0,4,5,31] [] [(0,.str a0),(4,.str r2.1),(5,vi r2.2.1),(31,vb (r2.2.2 != 0))] [] (To.thenN (cn h (fun h=>?_) (fun h=>?_)))))))
  ·refine Wp.seq (rg [2,3] [] [(2,.str []),(3,vb false)] [] (To.thenN (Wp.ret (To.thenR (To.thenR ?_)))))
   cases h
   exact To.done hΓ (by kernel_rfl)
  ·refine Wp.skip (To.thenN (Wp.seq (rg [0,4,5,7] [] [(0,.str a0),(4,.str r2.1),(5,vi r2.2.1),(7,vi r2.2.1)] [] (To.thenN (Wp.seq (Wp.block ?_))))))
   obtain ⟨o3,ho3,h⟩:=bind_of h
   refine kw [0,4,5,7] [] [(0,.str a0),(4,.str r2.1),(5,vi r2.2.1),(7,vi r2.2.1)] [] (Wp.loopL (ok_ref12_value_l1 n a0 r2.1 r2.2.1 n r2.2.1 o3 ho3 (To.blockX (To.thenN (Wp.seq (Wp.seq ?_))))))
   obtain ⟨hc5,h⟩:=chk_of h
   obtain ⟨x4,hx4,h⟩:=lett_of h
   refine r0 [4,59] [] [(4,.str r2.1),(59,vb (bif (o3 == (List.length a0:Int)) then true else (bif (decide (o3 > r2.2.1)) then ((((a0)[Int.toNat o3]?.getD 0).toNat:Int) == 35) else false)))] [] (AllP.cons hc5 AllP.nil) (To.eq (K':=[(4,.str r2.1),(59,vb x4)]) (L':=[]) (by cases hx4; rfl) (by cases hx4; rfl) (To.thenN (cn h (fun h=>?_) (fun h=>?_))))
   ·refine Wp.seq (rg [2,3] [] [(2,.str r2.1),(3,vb true)] [] (To.thenN (Wp.ret (To.thenR (To.thenR ?_)))))
    cases h
    exact To.done hΓ (by kernel_rfl)
   ·refine Wp.skip (To.thenN (Wp.seq (rg [2,3] [] [(2,.str []),(3,vb false)] [] (To.thenN (Wp.ret (To.thenR ?_))))))
    cases h
    exact To.done hΓ (by kernel_rfl)
 ·refine Wp.skip (To.thenN (Wp.seq (rg [0,8] [] [(0,.str a0),(8,vi (List.length a0:Int))] [] (To.thenN (Wp.seq (Wp.seq (rg [0,8,9] [] [(0,.str a0),(8,vi (List.length a0:Int)),(9,vi (IntKind.wrap .i64 ((List.length a0:Int) - 2)))] [] (To.thenN (Wp.block ?_)))))))))
  obtain ⟨o6,ho6,h⟩:=bind_of h
  refine kw [0,8,9] [] [(0,.str a0),(8,vi (List.length a0:Int)),(9,vi (IntKind.wrap .i64 ((List.length a0:Int) - 2)))] [] (Wp.loopL (ok_ref12_value_l2 n a0 n (List.length a0:Int) (IntKind.wrap .i64 ((List.length a0:Int) - 2)) o6 ho6 (To.blockX (To.thenN (Wp.seq ?_)))))
  obtain ⟨hc9,h⟩:=chk_of h
  obtain ⟨r7,hr7,h⟩:=bind_of h
  refine rr [] [(3,.str r7)] [] [0] [] [(0,.str r7)] [] [_,_] (AllP.cons hc9 (AllP.cons (c1 (ok_ref12_trim n (List.take (Int.toNat o6) a0) _ hr7)) AllP.nil)) (To.thenN (Wp.seq (Wp.seq (rg [0,10] [] [(0,.str r7),(10,vi 0)] [] (To.thenN (Wp.block ?_))))))
  obtain ⟨o8,ho8,h⟩:=bind_of h
  refine kw [0,10] [] [(0,.str r7),(10,vi 0)] [] (Wp.loopL (ok_ref12_value_l4 n r7 n 0 o8 ho8 ?_))
  rcases o8 with o8 | o8
  ·replace h:=sum_l h
   refine To.blockX (To.thenN (Wp.seq (rg [2,3] [] [(2,.str r7),(3,vb true)] [] (To.thenN (Wp.ret ?_)))))
   cases h
   exact To.done hΓ (by kernel_rfl)
  ·replace h:=sum_r h
   refine To.blockR (To.thenR ?_)
   cases h
   exact To.done hΓ (by kernel_rfl)
def ref12_line_j1 (n:Nat) (v0:List UInt8) (v25:Bool) (b2:S_api_Var):Option ((List UInt8)) :=
 if v25 = true then (if (decide (0 ≤ (7:Int) ∧ (7:Int) ≤ (List.length v0:Int))) = true then ((ref12_trim n (List.drop (Int.toNat 7) v0)).bind fun r3 =>
 some r3) else none)
 else some v0
theorem ok_ref12_line_j1 (n:Nat) (v0:List UInt8) (v25:Bool) (b2:S_api_Var) (o:(List UInt8)) (h:ref12_line_j1 n v0 v25 b2 = some o) {F0:Fz} {w0:Pt Tryd.prog} {Q:Exit → Act → World → Prop} (hQ:To 81 F0 w0 [(0,.str o),(2,.own 2 0)] [(2,43,qc6 b2)] .normal Q):Wp Tryd.prog 81 F0 w0 [(0,.str v0),(2,.own 2 0),(25,vb v25)] [(2,43,qc6 b2)] (cB (cA (cB (cB (cB (cF Tryd.f39)))))) Q:=by
 unfold ref12_line_j1 at h
 refine cn h (fun h=>?_) (fun h=>?_)
 ·obtain ⟨hc4,h⟩:=chk_of h
  obtain ⟨r3,hr3,h⟩:=bind_of h
  refine rr [] [(2,.str r3)] [] [0,2] [2] [(0,.str r3),(2,.own 2 0)] [(2,43,qc6 b2)] [_,_] (AllP.cons hc4 (AllP.cons (c1 (ok_ref12_trim n (List.drop (Int.toNat 7) v0) _ hr3)) AllP.nil)) (kt [0,2] [2] [(0,.str r3),(2,.own 2 0)] [(2,43,qc6 b2)] ?_)
  cases h
  exact hQ
 ·refine Wp.skip (kt [0,2] [2] [(0,.str v0),(2,.own 2 0)] [(2,43,qc6 b2)] ?_)
  cases h
  exact hQ
def ref12_line_l2 (n:Nat) (v0:List UInt8) (b2:S_api_Var):Nat → Int → Option (Int)
 | 0,_=>none
 | k + 1,v4=>if ((!((decide (v4 < (List.length v0:Int))) == true) || decide (0 ≤ v4 ∧ v4 < (List.length v0:Int)))) = true then (if (bif (decide (v4 < (List.length v0:Int))) then ((((v0)[Int.toNat v4]?.getD 0).toNat:Int) != 61) else false) = true then (ref12_line_l2 n v0 b2 k (IntKind.wrap .i64 (v4 + 1)))
 else some v4) else none
theorem ok_ref12_line_l2 (n:Nat) (v0:List UInt8) (b2:S_api_Var) {F0:Fz} {w0:Pt Tryd.prog} {Q:Exit → Act → World → Prop} (k:Nat):∀ (v4:Int) (o:Int),ref12_line_l2 n v0 b2 k v4 = some o → To 81 F0 w0 [(0,.str v0),(2,.own 2 0),(4,vi o)] [(2,43,qc6 b2)] (.exit 0) Q → WL Tryd.prog 81 F0 w0 [(0,.str v0),(2,.own 2 0),(4,vi v4)] [(2,43,qc6 b2)] (cI (cI (cA (cB (cB (cB (cB (cB (cF Tryd.f39))))))))) Q:=by
 induction k with
 | zero=>intro v4 o h; cases h
 | succ k ih =>
  intro v4 o h hQ
  rw [ref12_line_l2] at h
  refine WL.round (Wp.seq (Wp.seq ?_))
  obtain ⟨hc4,h⟩:=chk_of h
  refine r0 [0,2,4,38] [2] [(0,.str v0),(2,.own 2 0),(4,vi v4),(38,vb (bif (ex12 v4 v0) then ((ex11 v0 v4) != 61) else false))] [(2,43,qc6 b2)] (AllP.cons hc4 AllP.nil) (To.thenN (cn h (fun h=>?_) (fun h=>?_)))
  ·refine Wp.skip (To.thenN (Wp.block (rg [0,2,4] [2] [(0,.str v0),(2,.own 2 0),(4,vi (IntKind.wrap .i64 (v4 + 1)))] [(2,43,qc6 b2)] (To.blockN (To.again ?_)))))
   exact ih (IntKind.wrap .i64 (v4 + 1)) _ h hQ
  ·refine Wp.exit (To.thenX (To.thenX (kt [0,2,4] [2] [(0,.str v0),(2,.own 2 0),(4,vi v4)] [(2,43,qc6 b2)] ?_)))
   cases h
   exact hQ
def ref12_line (n:Nat) (a0:List UInt8):Option (S_api_Var × Bool) :=
 (ref12_trim n a0).bind fun r1 =>
 if ((!(((List.length r1:Int) == 0) == false) || decide (0 ≤ (0:Int) ∧ (0:Int) < (List.length r1:Int)))) = true then (if (bif ((List.length r1:Int) == 0) then true else ((((r1)[Int.toNat 0]?.getD 0).toNat:Int) == 35)) = true then (some ((S_api_Var.mk [] []),true))
 else (if ((!((decide ((List.length r1:Int) > 7)) == true) || decide (0 ≤ (7:Int) ∧ (7:Int) ≤ (List.length r1:Int)))) = true then (lett ((bif (decide ((List.length r1:Int) > 7)) then ((List.take (Int.toNat 7) r1) == [101,120,112,111,114,116,32]) else false):Bool) fun x2 =>
 (ref12_line_j1 n r1 x2 (S_api_Var.mk [] [])).bind fun o3 =>
 (ref12_line_l2 n o3 (S_api_Var.mk [] []) n 0).bind fun o4 =>
 if ((!((o4 == (List.length o3:Int)) == false) || decide (0 ≤ o4 ∧ o4 ≤ (List.length o3:Int)))) = true then (((if ((o4 == (List.length o3:Int)) == false) = true then ref02_Variable n (List.take (Int.toNat o4) o3) else some false)).bind fun r5 =>
 if ((!(((decide ((IntKind.wrap .i64 (o4 + 1)) < (List.length o3:Int))) == true) && ((bif (o4 == (List.length o3:Int)) then true else (!r5)) == false)) || decide (0 ≤ (IntKind.wrap .i64 (o4 + 1)) ∧ (IntKind.wrap .i64 (o4 + 1)) < (List.length o3:Int)))) = true then (lett ((bif (bif (o4 == (List.length o3:Int)) then true else (!r5)) then true else (bif (decide ((IntKind.wrap .i64 (o4 + 1)) < (List.length o3:Int))) then ((((o3)[Int.toNat (IntKind.wrap .i64 (o4 + 1))]?.getD 0).toNat:Int) == 32) else false)):Bool) fun x6 =>
 if x6 = true then (some ((S_api_Var.mk [] []),false))
 else (if (decide (0 ≤ (IntKind.wrap .i64 (o4 + 1)) ∧ (IntKind.wrap .i64 (o4 + 1)) ≤ (List.length o3:Int))) = true then ((ref12_value n (List.drop (Int.toNat (IntKind.wrap .i64 (o4 + 1))) o3)).bind fun r7 =>
 if (decide (0 ≤ o4 ∧ o4 ≤ (List.length o3:Int))) = true then (some ((S_api_Var.mk (List.take (Int.toNat o4) o3) r7.1),r7.2)) else none) else none)) else none) else none) else none)) else none
theorem ok_ref12_line (n:Nat) (a0:List UInt8) (r:S_api_Var × Bool) (h:ref12_line n a0 = some r):CallsX Tryd.prog 39 [.str a0] (.tup [.agg (qc6 r.1),vb r.2]):=by
 unfold ref12_line at h
 refine xo Tryd.f39 rfl fun F0 w0 _=>?_
 refine Wp.seq (rg [0,2] [2] [(0,.str a0),(2,.own 2 0)] [(2,43,[.str [],.str []])] (To.thenN (Wp.seq ?_)))
 obtain ⟨r1,hr1,h⟩:=bind_of h
 refine rc [] 1 [0,2] [2] [(0,.str r1),(2,.own 2 0)] [(2,43,[.str [],.str []])] (ok_ref12_trim n a0 _ hr1) (To.thenN (Wp.seq (Wp.seq ?_)))
 obtain ⟨hc13,h⟩:=chk_of h
 refine r0 [0,2,16] [2] [(0,.str r1),(2,.own 2 0),(16,vb (bif ((List.length r1:Int) == 0) then true else ((((r1)[Int.toNat 0]?.getD 0).toNat:Int) == 35)))] [(2,43,[.str [],.str []])] (AllP.cons hc13 AllP.nil) (To.thenN (cn h (fun h=>?_) (fun h=>?_)))
 ·refine Wp.seq (rg [2,3] [2] [(2,.own 2 0),(3,vb true)] [(2,43,[.str [],.str []])] (To.thenN (Wp.ret (To.thenR ?_))))
  cases h
  exact To.done hΓ (by kernel_rfl)
 ·refine Wp.skip (To.thenN (Wp.seq (Wp.seq ?_)))
  obtain ⟨hc12,h⟩:=chk_of h
  obtain ⟨x2,hx2,h⟩:=lett_of h
  refine r0 [0,2,25] [2] [(0,.str r1),(2,.own 2 0),(25,vb (bif (decide ((List.length r1:Int) > 7)) then ((List.take (Int.toNat 7) r1) == [101,120,112,111,114,116,32]) else false))] [(2,43,[.str [],.str []])] (AllP.cons hc12 AllP.nil) (To.eq (K':=[(0,.str r1),(2,.own 2 0),(25,vb x2)]) (L':=[(2,43,[.str [],.str []])]) (by cases hx2; rfl) (by cases hx2; rfl) (To.thenN ?_))
  obtain ⟨o3,ho3,h⟩:=bind_of h
  refine kw [0,2,25] [2] [(0,.str r1),(2,.own 2 0),(25,vb x2)] [(2,43,[.str [],.str []])] (ok_ref12_line_j1 n r1 x2 zx1 o3 ho3 (To.thenN (Wp.seq (rg [0,2,4] [2] [(0,.str o3),(2,.own 2 0),(4,vi 0)] [(2,43,[.str [],.str []])] (To.thenN (Wp.seq (Wp.block ?_)))))))
  obtain ⟨o4,ho4,h⟩:=bind_of h
  refine kw [0,2,4] [2] [(0,.str o3),(2,.own 2 0),(4,vi 0)] [(2,43,[.str [],.str []])] (Wp.loopL (ok_ref12_line_l2 n o3 zx1 n 0 o4 ho4 (To.blockX (To.thenN (Wp.seq (Wp.seq ?_))))))
  obtain ⟨hc10,h⟩:=chk_of h
  obtain ⟨r5,hr5,h⟩:=bind_of h
  obtain ⟨hc11,h⟩:=chk_of h
  obtain ⟨x6,hx6,h⟩:=lett_of h
  refine rr [] [(8,vb r5)] [] [0,2,4,65] [2] [(0,.str o3),(2,.own 2 0),(4,vi o4),(65,vb (bif (bif (o4 == (List.length o3:Int)) then true else (!r5)) then true else (bif (decide ((IntKind.wrap .i64 (o4 + 1)) < (List.length o3:Int))) then ((((o3)[Int.toNat (IntKind.wrap .i64 (o4 + 1))]?.getD 0).toNat:Int) == 32) else false)))] [(2,43,[.str [],.str []])] [_,(((o4 == (List.length o3:Int)) == false) = true → CX Tryd.prog 43 [.str (List.take (Int.toNat o4) o3)] (vb r5)),_] (AllP.cons hc10 (AllP.cons (fun hg=>cx (ok_ref02_Variable n (List.take (Int.toNat o4) o3) _ (if_t hg hr5))) (AllP.cons hc11 AllP.nil))) (To.eq (K':=[(0,.str o3),(2,.own 2 0),(4,vi o4),(65,vb x6)]) (L':=[(2,43,[.str [],.str []])]) (by cases hx6; rfl) (by cases hx6; rfl) (To.thenN (cn h (fun h=>?_) (fun h=>?_))))
  ·refine Wp.seq (rg [2,3] [2] [(2,.own 2 0),(3,vb false)] [(2,43,[.str [],.str []])] (To.thenN (Wp.ret (To.thenR ?_))))
   cases h
   exact To.done hΓ (by kernel_rfl)
  ·refine Wp.skip (To.thenN (Wp.seq ?_))
   obtain ⟨hc9,h⟩:=chk_of h
   obtain ⟨r7,hr7,h⟩:=bind_of h
   refine rr [] [(4,.tup [.str r7.1,vb r7.2])] [] [0,2,4,5,6] [2] [(0,.str o3),(2,.own 2 0),(4,vi o4),(5,.str r7.1),(6,vb r7.2)] [(2,43,[.str [],.str []])] [_,_] (AllP.cons hc9 (AllP.cons (c1 (ok_ref12_value n (List.drop (Int.toNat (IntKind.wrap .i64 (o4 + 1))) o3) _ hr7)) AllP.nil)) (To.thenN (Wp.seq ?_))
   obtain ⟨hc8,h⟩:=chk_of h
   refine r0 [2,3] [2] [(2,.own 2 0),(3,vb r7.2)] [(2,43,[.str (List.take (Int.toNat o4) o3),.str r7.1])] (AllP.cons hc8 AllP.nil) (To.thenN (Wp.ret ?_))
   cases h
   exact To.done hΓ (by kernel_rfl)
theorem good_E_string (l:List (List UInt8)):GoodR (.recs [] E_string l):=⟨Nat.le_of_ble_eq_true (by kernel_rfl),fun _=>⟨rfl,rfl⟩⟩
def ref02_Sorted_j3 (n:Nat) (v0:List (List UInt8)) (v3:List (List UInt8)) (v4:Int) (v5:Int):Option (Int) :=
 if ((!(((List.length v3:Int) == 0) == false) || decide (0 ≤ v5 ∧ v5 < (List.length v0:Int)))) = true then (if ((!(((List.length v3:Int) == 0) == false) || decide (0 ≤ (IntKind.wrap .i64 ((List.length v3:Int) - 1)) ∧ (IntKind.wrap .i64 ((List.length v3:Int) - 1)) < (List.length v3:Int)))) = true then (if ((!(((decide (v4 < 0)) == false) && ((bif ((List.length v3:Int) == 0) then true else (!(Op.bytesLess ((v0)[Int.toNat v5]?.getD []) ((v3)[Int.toNat (IntKind.wrap .i64 ((List.length v3:Int) - 1))]?.getD []) || ((v0)[Int.toNat v5]?.getD []) == ((v3)[Int.toNat (IntKind.wrap .i64 ((List.length v3:Int) - 1))]?.getD [])))) == true)) || decide (0 ≤ v5 ∧ v5 < (List.length v0:Int)))) = true then (if ((!(((decide (v4 < 0)) == false) && ((bif ((List.length v3:Int) == 0) then true else (!(Op.bytesLess ((v0)[Int.toNat v5]?.getD []) ((v3)[Int.toNat (IntKind.wrap .i64 ((List.length v3:Int) - 1))]?.getD []) || ((v0)[Int.toNat v5]?.getD []) == ((v3)[Int.toNat (IntKind.wrap .i64 ((List.length v3:Int) - 1))]?.getD [])))) == true)) || decide (0 ≤ v4 ∧ v4 < (List.length v0:Int)))) = true then (lett ((bif (bif ((List.length v3:Int) == 0) then true else (!(Op.bytesLess ((v0)[Int.toNat v5]?.getD []) ((v3)[Int.toNat (IntKind.wrap .i64 ((List.length v3:Int) - 1))]?.getD []) || ((v0)[Int.toNat v5]?.getD []) == ((v3)[Int.toNat (IntKind.wrap .i64 ((List.length v3:Int) - 1))]?.getD [])))) then (bif (decide (v4 < 0)) then true else (Op.bytesLess ((v0)[Int.toNat v5]?.getD []) ((v0)[Int.toNat v4]?.getD []))) else false):Bool) fun x1 =>
 if x1 = true then some v5
 else some v4) else none) else none) else none) else none
abbrev rc9 (l:List (List UInt8)):D:=.rowc false (α:=List UInt8) [] E_string l
abbrev ex23 (x0:List (List UInt8)) (x1:List (List UInt8)) (x2:Int):=(bif ((List.length x0:Int) == 0) then true else (!(Op.bytesLess ((x1)[Int.toNat x2]?.getD []) ((x0)[Int.toNat (IntKind.wrap .i64 ((List.length x0:Int) - 1))]?.getD []) || ((x1)[Int.toNat x2]?.getD []) == ((x0)[Int.toNat (IntKind.wrap .i64 ((List.length x0:Int) - 1))]?.getD []))))
theorem ok_ref02_Sorted_j3 (n:Nat) (v0:List (List UInt8)) (v3:List (List UInt8)) (v4:Int) (v5:Int) (o:Int) (h:ref02_Sorted_j3 n v0 v3 v4 v5 = some o) {F0:Fz} {w0:Pt Tryd.prog} {Q:Exit → Act → World → Prop} (hQ:To 55 F0 w0 [(0,ls v0),(3,.row 1003),(4,vi o),(5,vi v5)] [(1003,9,[rc9 v3])] .normal Q):Wp Tryd.prog 55 F0 w0 [(0,ls v0),(3,.row 1003),(4,vi v4),(5,vi v5)] [(1003,9,[rc9 v3])] (cA (cB (cI (cI (cB (cA (cB (cI (cI (cI (cB (cB (cF Tryd.f44))))))))))))) Q:=by
 unfold ref02_Sorted_j3 at h
 refine Wp.block (Wp.seq ?_)
 obtain ⟨hc2,h⟩:=chk_of h
 obtain ⟨hc3,h⟩:=chk_of h
 obtain ⟨hc4,h⟩:=chk_of h
 obtain ⟨hc5,h⟩:=chk_of h
 obtain ⟨x1,hx1,h⟩:=lett_of h
 refine Wp.regionD hm hΓ [] [0,3,4,5,43] [1003] (K':=[(0,ls v0),(3,.row 1003),(4,vi v4),(5,vi v5),(43,vb (bif (ex23 v3 v0 v5) then (bif (decide (v4 < 0)) then true else (Op.bytesLess ((v0)[Int.toNat v5]?.getD []) ((v0)[Int.toNat v4]?.getD []))) else false))]) (L':=[(1003,9,[rc9 v3])]) (ob:=[(!(((List.length v3:Int) == 0) == false) || decide (0 ≤ v5 ∧ v5 < (List.length v0:Int))) = true,(!(((List.length v3:Int) == 0) == false) || decide (0 ≤ (IntKind.wrap .i64 ((List.length v3:Int) - 1)) ∧ (IntKind.wrap .i64 ((List.length v3:Int) - 1)) < (List.length v3:Int))) = true,(!(((List.length v3:Int) == 0) == false) || decide (0 ≤ (IntKind.wrap .i64 ((List.length v3:Int) - 1)) ∧ (IntKind.wrap .i64 ((List.length v3:Int) - 1)) < (List.length v3:Int))) = true,(!(((decide (v4 < 0)) == false) && ((ex23 v3 v0 v5) == true)) || decide (0 ≤ v5 ∧ v5 < (List.length v0:Int))) = true,(!(((decide (v4 < 0)) == false) && ((ex23 v3 v0 v5) == true)) || decide (0 ≤ v4 ∧ v4 < (List.length v0:Int))) = true]) (by kernel_rfl) (AllP.cons hc2 (AllP.cons hc3 (AllP.cons hc3 (AllP.cons hc4 (AllP.cons hc5 AllP.nil))))) (To.eq (K':=[(0,ls v0),(3,.row 1003),(4,vi v4),(5,vi v5),(43,vb x1)]) (L':=[(1003,9,[rc9 v3])]) (by cases hx1; rfl) (by cases hx1; rfl) (To.thenN (cn h (fun h=>?_) (fun h=>?_))))
 ·refine rg [0,3,4,5] [1003] [(0,ls v0),(3,.row 1003),(4,vi v5),(5,vi v5)] [(1003,9,[rc9 v3])] (To.blockN ?_)
  cases h
  exact hQ
 ·refine Wp.skip (To.blockN (kt [0,3,4,5] [1003] [(0,ls v0),(3,.row 1003),(4,vi v4),(5,vi v5)] [(1003,9,[rc9 v3])] ?_))
  cases h
  exact hQ
def ref02_Sorted_l2 (n:Nat) (v0:List (List UInt8)) (v3:List (List UInt8)):Nat → Int → Int → Option (Int)
 | 0,_,_=>none
 | k + 1,v4,v5=>if (decide (v5 < (List.length v0:Int))) = true then ((ref02_Sorted_j3 n v0 v3 v4 v5).bind fun o1 =>
 ref02_Sorted_l2 n v0 v3 k o1 (IntKind.wrap .i64 (v5 + 1)))
 else some v4
theorem ok_ref02_Sorted_l2 (n:Nat) (v0:List (List UInt8)) (v3:List (List UInt8)) {F0:Fz} {w0:Pt Tryd.prog} {Q:Exit → Act → World → Prop} (k:Nat):∀ (v4:Int) (v5:Int) (o:Int),ref02_Sorted_l2 n v0 v3 k v4 v5 = some o → To 55 F0 w0 [(0,ls v0),(3,.row 1003),(4,vi o)] [(1003,9,[rc9 v3])] (.exit 2) Q → WL Tryd.prog 55 F0 w0 [(0,ls v0),(3,.row 1003),(4,vi v4),(5,vi v5)] [(1003,9,[rc9 v3])] (cI (cI (cB (cA (cB (cI (cI (cI (cB (cB (cF Tryd.f44))))))))))) Q:=by
 induction k with
 | zero=>intro v4 v5 o h; cases h
 | succ k ih =>
  intro v4 v5 o h hQ
  rw [ref02_Sorted_l2] at h
  refine WL.round (Wp.seq (Wp.seq (rg [0,3,4,5,10] [1003] [(0,ls v0),(3,.row 1003),(4,vi v4),(5,vi v5),(10,vb (decide (v5 < (List.length v0:Int))))] [(1003,9,[rc9 v3])] (To.thenN (cn h (fun h=>?_) (fun h=>?_))))))
  ·refine Wp.skip (To.thenN (Wp.seq ?_))
   obtain ⟨o1,ho1,h⟩:=bind_of h
   refine kw [0,3,4,5] [1003] [(0,ls v0),(3,.row 1003),(4,vi v4),(5,vi v5)] [(1003,9,[rc9 v3])] (ok_ref02_Sorted_j3 n v0 v3 v4 v5 o1 ho1 (To.thenN (rg [0,3,4,5] [1003] [(0,ls v0),(3,.row 1003),(4,vi o1),(ex6 v5)] [(1003,9,[rc9 v3])] (kt [0,3,4,5] [1003] [(0,ls v0),(3,.row 1003),(4,vi o1),(ex6 v5)] [(1003,9,[rc9 v3])] (To.again ?_)))))
   exact ih o1 (IntKind.wrap .i64 (v5 + 1)) _ h hQ
  ·refine Wp.exit (To.thenX (To.thenX (kt [0,3,4] [1003] [(0,ls v0),(3,.row 1003),(4,vi v4)] [(1003,9,[rc9 v3])] ?_)))
   cases h
   exact hQ
def ref02_Sorted_l1 (n:Nat) (v0:List (List UInt8)):Nat → (List (List UInt8)) → Option ((List (List UInt8)))
 | 0,_=>none
 | k + 1,v3=>(ref02_Sorted_l2 n v0 v3 n (-1) 0).bind fun o1 =>
 if (decide (o1 < 0)) = true then some v3
 else (if (decide (0 ≤ o1 ∧ o1 < (List.length v0:Int))) = true then (if (decide ((List.length v3 + List.length ([((v0)[Int.toNat o1]?.getD [])]:List (List UInt8))) * (16 + 1) ≤ limit)) = true then (ref02_Sorted_l1 n v0 k (v3 ++ ([((v0)[Int.toNat o1]?.getD [])]:List (List UInt8)))) else none) else none)
theorem ok_ref02_Sorted_l1 (n:Nat) (v0:List (List UInt8)) {F0:Fz} {w0:Pt Tryd.prog} {Q:Exit → Act → World → Prop} (k:Nat):∀ (v3:List (List UInt8)) (o:(List (List UInt8))),ref02_Sorted_l1 n v0 k v3 = some o → To 55 F0 w0 [(2,.row 1002)] [(1002,9,[rc9 o])] .ret Q → WL Tryd.prog 55 F0 w0 [(0,ls v0),(3,.row 1003)] [(1003,9,[rc9 v3])] (cI (cI (cB (cB (cF Tryd.f44))))) Q:=by
 induction k with
 | zero=>intro v3 o h; cases h
 | succ k ih =>
  intro v3 o h hQ
  rw [ref02_Sorted_l1] at h
  refine WL.round (Wp.block (Wp.seq (rg [0,3,4] [1003] [(0,ls v0),(3,.row 1003),(4,vi (-1))] [(1003,9,[rc9 v3])] (To.thenN (Wp.seq (Wp.seq (rg [0,3,4,5] [1003] [(0,ls v0),(3,.row 1003),(4,vi (-1)),(5,vi 0)] [(1003,9,[rc9 v3])] (To.thenN (Wp.block ?_)))))))))
  obtain ⟨o1,ho1,h⟩:=bind_of h
  refine kw [0,3,4,5] [1003] [(0,ls v0),(3,.row 1003),(4,vi (-1)),(5,vi 0)] [(1003,9,[rc9 v3])] (Wp.loopL (ok_ref02_Sorted_l2 n v0 v3 n (-1) 0 o1 ho1 (To.blockX (To.thenN (Wp.seq (Wp.seq (rg [0,3,4,46] [1003] [(0,ls v0),(3,.row 1003),(4,vi o1),(46,vb (decide (o1 < 0)))] [(1003,9,[rc9 v3])] (To.thenN (cn h (fun h=>?_) (fun h=>?_))))))))))
  ·refine Wp.seq (rg [2] [1003] [(2,.row 1003)] [(1003,9,[rc9 v3])] (To.thenN (Wp.ret (To.thenR (To.blockR (To.thenR (nt [2] [1003] [(1003,1002)] [2] [1002] [(2,.row 1002)] [(1002,9,[rc9 v3])] ?_)))))))
   cases h
   exact hQ
  ·refine Wp.skip (To.thenN ?_)
   obtain ⟨hc2,h⟩:=chk_of h
   obtain ⟨hc3,h⟩:=chk_of h
   refine rr [] [(5,ls ([((v0)[Int.toNat o1]?.getD [])])),(6,ls (v3 ++ ([((v0)[Int.toNat o1]?.getD [])]:List (List UInt8))))] [] [0,3] [54] [(0,ls v0),(3,.row 54)] [(54,9,[rc9 (v3 ++ ([((v0)[Int.toNat o1]?.getD [])]:List (List UInt8)))])] [_,(MkOb 1 [.str ((v0)[Int.toNat o1]?.getD [])] 1 (ls ([((v0)[Int.toNat o1]?.getD [])])) ∧ GoodR (ls ([((v0)[Int.toNat o1]?.getD [])]))),_,(AppOb [] E_string v3 (List.flatMap E_string ([((v0)[Int.toNat o1]?.getD [])]:List (List UInt8))) (List.length ([((v0)[Int.toNat o1]?.getD [])]:List (List UInt8))) (ls (v3 ++ ([((v0)[Int.toNat o1]?.getD [])]:List (List UInt8)))) ∧ GoodR (ls (v3 ++ ([((v0)[Int.toNat o1]?.getD [])]:List (List UInt8)))))] (AllP.cons hc2 (AllP.cons (mkOb (by kernel_rfl) rfl (by kernel_rfl) (good_E_string _)) (AllP.cons hc3 (AllP.cons (appOb rfl rfl (good_E_string _)) AllP.nil)))) (To.blockN (nt [0,3] [54] [(54,1003)] [0,3] [1003] [(0,ls v0),(3,.row 1003)] [(1003,9,[rc9 (v3 ++ ([((v0)[Int.toNat o1]?.getD [])]:List (List UInt8)))])] (To.again ?_)))
   exact ih (v3 ++ ([((v0)[Int.toNat o1]?.getD [])]:List (List UInt8))) _ h hQ
def ref02_Sorted (n:Nat) (a0:List (List UInt8)):Option ((List (List UInt8))) :=
 (ref02_Sorted_l1 n a0 n ([]:List (List UInt8))).bind fun o1 =>
 some o1
abbrev rc10 (l:List (List UInt8)):D:=.rowc true (α:=List UInt8) [] E_string l
theorem ok_ref02_Sorted (n:Nat) (a0:List (List UInt8)) (r:(List (List UInt8))) (h:ref02_Sorted n a0 = some r):CallsX Tryd.prog 44 [ls a0] (ls r):=by
 unfold ref02_Sorted at h
 refine xo Tryd.f44 rfl fun F0 w0 _=>?_
 refine Wp.seq (rg [0] [] [(0,ls a0)] [] (To.thenN (Wp.seq (rr [] [(0,ls [])] [] [0,3] [6] [(0,ls a0),(3,.row 6)] [(6,9,[rc9 []])] [(MkOb 1 [] 0 (ls []) ∧ GoodR (ls []))] (AllP.cons (mkOb (by kernel_rfl) rfl (by kernel_rfl) (good_E_string _)) AllP.nil) (To.thenN (Wp.block ?_))))))
 obtain ⟨o1,ho1,h⟩:=bind_of h
 refine nw [0,3] [6] [(6,1003)] [0,3] [1003] [(0,ls a0),(3,.row 1003)] [(1003,9,[rc9 []])] (Wp.loopL (ok_ref02_Sorted_l1 n a0 n ([]:List (List UInt8)) o1 ho1 (To.blockR (kt [2] [1002] [(2,.row 1002)] [(1002,9,[rc9 o1])] (To.pre (St.settle (ks:=[1002]) (kk:=[2]) (kl:=[1002]) (K':=[(2,.row 1002)]) (L':=[(1002,9,[rc10 o1])]) (by kernel_rfl)) (To.pre (St.sealK [2] (K':=[(2,ls o1)]) (by kernel_rfl)) ?_))))))
 cases h
 exact To.done hΓ (by kernel_rfl)
def ref12_Last_l1 (n:Nat) (v0:List (S_api_Var)) (v1:List UInt8):Nat → Int → Option (Sum (Unit) ((List UInt8) × Bool))
 | 0,_=>none
 | k + 1,v6=>if (decide (v6 ≥ 0)) = true then (if (decide (0 ≤ v6 ∧ v6 < (List.length v0:Int))) = true then (if ((((v0)[Int.toNat v6]?.getD (S_api_Var.mk [] [])).f_Key) == v1) = true then (if (decide (0 ≤ v6 ∧ v6 < (List.length v0:Int))) = true then (some (.inr (((v0)[Int.toNat v6]?.getD (S_api_Var.mk [] [])).f_Val,true))) else none)
 else (ref12_Last_l1 n v0 v1 k (IntKind.wrap .i64 (v6 - 1)))) else none)
 else (some (.inl ()))
theorem ok_ref12_Last_l1 (n:Nat) (v0:List (S_api_Var)) (v1:List UInt8) {F0:Fz} {w0:Pt Tryd.prog} {Q:Exit → Act → World → Prop} (k:Nat):∀ (v6:Int) (o:Sum (Unit) ((List UInt8) × Bool)),ref12_Last_l1 n v0 v1 k v6 = some o → (Sum.elim (fun s=>To 26 F0 w0 [] [] (.exit 0) Q) (fun s=>To 26 F0 w0 [(4,.str s.1),(5,vb s.2)] [] .ret Q)) o → WL Tryd.prog 26 F0 w0 [(0,rs4 v0),(1,.str v1),(6,vi v6)] [] (cI (cI (cB (cA (cB (cF Tryd.f45)))))) Q:=by
 induction k with
 | zero=>intro v6 o h; cases h
 | succ k ih =>
  intro v6 o h hQ
  rw [ref12_Last_l1] at h
  refine WL.round (Wp.seq (Wp.seq (rg [0,1,6,11] [] [(0,rs4 v0),(1,.str v1),(6,vi v6),(11,vb (decide (v6 ≥ 0)))] [] (To.thenN (cn h (fun h=>?_) (fun h=>?_))))))
  ·refine Wp.skip (To.thenN (Wp.seq (Wp.block (Wp.seq ?_))))
   obtain ⟨hc2,h⟩:=chk_of h
   refine r0 [0,1,6,20] [] [(0,rs4 v0),(1,.str v1),(6,vi v6),(20,vb (((ex5 v0 v6).f_Key) == v1))] [] (AllP.cons hc2 AllP.nil) (To.thenN (cn h (fun h=>?_) (fun h=>?_)))
   ·refine Wp.seq ?_
    obtain ⟨hc1,h⟩:=chk_of h
    refine r0 [4,5] [] [(4,.str ((ex5 v0 v6).f_Val)),(5,vb true)] [] (AllP.cons hc1 AllP.nil) (To.thenN (Wp.ret (To.blockR (To.thenR (To.thenR ?_)))))
    cases h
    exact hQ
   ·refine Wp.skip (To.blockN (To.thenN (rg [0,1,6] [] [(0,rs4 v0),(1,.str v1),(6,vi (IntKind.wrap .i64 (v6 - 1)))] [] (kt [0,1,6] [] [(0,rs4 v0),(1,.str v1),(6,vi (IntKind.wrap .i64 (v6 - 1)))] [] (To.again ?_)))))
    exact ih (IntKind.wrap .i64 (v6 - 1)) _ h hQ
  ·refine Wp.exit (To.thenX (To.thenX (kt [] [] [] [] ?_)))
   cases h
   exact hQ
def ref12_Last (n:Nat) (a0:List (S_api_Var)) (a1:List UInt8):Option ((List UInt8) × Bool) :=
 (ref12_Last_l1 n a0 a1 n (IntKind.wrap .i64 ((List.length a0:Int) - 1))).bind fun o1 =>
 (Sum.elim (fun o1=>some ([],false)) (fun o1=>some (o1.1,o1.2))) o1
theorem ok_ref12_Last (n:Nat) (a0:List (S_api_Var)) (a1:List UInt8) (r:(List UInt8) × Bool) (h:ref12_Last n a0 a1 = some r):CallsX Tryd.prog 45 [rs4 a0,.str a1] (.tup [.str r.1,vb r.2]):=by
 unfold ref12_Last at h
 refine xo Tryd.f45 rfl fun F0 w0 _=>?_
 refine Wp.seq (rg [0,1] [] [(0,rs4 a0),(1,.str a1)] [] (To.thenN (Wp.seq (Wp.seq (rg [0,1,6] [] [(0,rs4 a0),(1,.str a1),(6,vi (IntKind.wrap .i64 ((List.length a0:Int) - 1)))] [] (To.thenN (Wp.block ?_)))))))
 obtain ⟨o1,ho1,h⟩:=bind_of h
 refine kw [0,1,6] [] [(0,rs4 a0),(1,.str a1),(6,vi (IntKind.wrap .i64 ((List.length a0:Int) - 1)))] [] (Wp.loopL (ok_ref12_Last_l1 n a0 a1 n (IntKind.wrap .i64 ((List.length a0:Int) - 1)) o1 ho1 ?_))
 rcases o1 with o1 | o1
 ·replace h:=sum_l h
  refine To.blockX (To.thenN (Wp.seq (rg [4,5] [] [(4,.str []),(5,vb false)] [] (To.thenN (Wp.ret ?_)))))
  cases h
  exact To.done hΓ (by kernel_rfl)
 ·replace h:=sum_r h
  refine To.blockR (To.thenR ?_)
  cases h
  exact To.done hΓ (by kernel_rfl)
def ref12_Gathered_j2 (n:Nat) (v0:List (S_api_Var)) (v3:List (List UInt8)) (v4:Int):Option ((List (List UInt8))) :=
 if (decide (0 ≤ v4 ∧ v4 < (List.length v0:Int))) = true then ((ref02_Variable n (((v0)[Int.toNat v4]?.getD (S_api_Var.mk [] [])).f_Key)).bind fun r1 =>
 if r1 = true then (if (decide (0 ≤ v4 ∧ v4 < (List.length v0:Int))) = true then (if (decide ((List.length v3 + List.length ([((v0)[Int.toNat v4]?.getD (S_api_Var.mk [] [])).f_Key]:List (List UInt8))) * (16 + 1) ≤ limit)) = true then (some (v3 ++ ([((v0)[Int.toNat v4]?.getD (S_api_Var.mk [] [])).f_Key]:List (List UInt8)))) else none) else none)
 else some v3) else none
abbrev ex24 (x0:List (S_api_Var)) (x1:Int):=([((x0)[Int.toNat x1]?.getD zx1).f_Key]:List (List UInt8))
theorem ok_ref12_Gathered_j2 (n:Nat) (v0:List (S_api_Var)) (v3:List (List UInt8)) (v4:Int) (o:(List (List UInt8))) (h:ref12_Gathered_j2 n v0 v3 v4 = some o) {F0:Fz} {w0:Pt Tryd.prog} {Q:Exit → Act → World → Prop} (hQ:To 58 F0 w0 [(0,rs4 v0),(3,.row 1003),(4,vi v4)] [(1003,9,[rc9 o])] .normal Q):Wp Tryd.prog 58 F0 w0 [(0,rs4 v0),(3,.row 1003),(4,vi v4)] [(1003,9,[rc9 v3])] (cA (cB (cI (cI (cB (cA (cB (cB (cF Tryd.f26))))))))) Q:=by
 unfold ref12_Gathered_j2 at h
 refine Wp.block (Wp.seq ?_)
 obtain ⟨hc4,h⟩:=chk_of h
 obtain ⟨r1,hr1,h⟩:=bind_of h
 refine rr [] [(5,vb r1)] [] [0,3,4,21] [1003] [(0,rs4 v0),(3,.row 1003),(4,vi v4),(21,vb r1)] [(1003,9,[rc9 v3])] [_,_] (AllP.cons hc4 (AllP.cons (c1 (ok_ref02_Variable n (((v0)[Int.toNat v4]?.getD zx1).f_Key) _ hr1)) AllP.nil)) (To.thenN (cn h (fun h=>?_) (fun h=>?_)))
 ·obtain ⟨hc2,h⟩:=chk_of h
  obtain ⟨hc3,h⟩:=chk_of h
  refine rr [] [(6,ls ([((v0)[Int.toNat v4]?.getD zx1).f_Key])),(7,ls (v3 ++ (ex24 v0 v4)))] [] [0,3,4] [29] [(0,rs4 v0),(3,.row 29),(4,vi v4)] [(29,9,[rc9 (v3 ++ (ex24 v0 v4))])] [_,(MkOb 1 [.str (((v0)[Int.toNat v4]?.getD zx1).f_Key)] 1 (ls ([((v0)[Int.toNat v4]?.getD zx1).f_Key])) ∧ GoodR (ls ([((v0)[Int.toNat v4]?.getD zx1).f_Key]))),_,(AppOb [] E_string v3 (List.flatMap E_string (ex24 v0 v4)) (List.length (ex24 v0 v4)) (ls (v3 ++ (ex24 v0 v4))) ∧ GoodR (ls (v3 ++ (ex24 v0 v4))))] (AllP.cons hc2 (AllP.cons (mkOb (by kernel_rfl) rfl (by kernel_rfl) (good_E_string _)) (AllP.cons hc3 (AllP.cons (appOb rfl rfl (good_E_string _)) AllP.nil)))) (To.blockN (nt [0,3,4] [29] [(29,1003)] [0,3,4] [1003] [(0,rs4 v0),(3,.row 1003),(4,vi v4)] [(1003,9,[rc9 (v3 ++ (ex24 v0 v4))])] ?_))
  cases h
  exact hQ
 ·refine Wp.skip (To.blockN (kt [0,3,4] [1003] [(0,rs4 v0),(3,.row 1003),(4,vi v4)] [(1003,9,[rc9 v3])] ?_))
  cases h
  exact hQ
def ref12_Gathered_l1 (n:Nat) (v0:List (S_api_Var)):Nat → (List (List UInt8)) → Int → Option ((List (List UInt8)))
 | 0,_,_=>none
 | k + 1,v3,v4=>if (decide (v4 < (List.length v0:Int))) = true then ((ref12_Gathered_j2 n v0 v3 v4).bind fun o1 =>
 ref12_Gathered_l1 n v0 k o1 (IntKind.wrap .i64 (v4 + 1)))
 else some v3
theorem ok_ref12_Gathered_l1 (n:Nat) (v0:List (S_api_Var)) {F0:Fz} {w0:Pt Tryd.prog} {Q:Exit → Act → World → Prop} (k:Nat):∀ (v3:List (List UInt8)) (v4:Int) (o:(List (List UInt8))),ref12_Gathered_l1 n v0 k v3 v4 = some o → To 58 F0 w0 [(0,rs4 v0),(3,.row 1003)] [(1003,9,[rc9 o])] (.exit 0) Q → WL Tryd.prog 58 F0 w0 [(0,rs4 v0),(3,.row 1003),(4,vi v4)] [(1003,9,[rc9 v3])] (cI (cI (cB (cA (cB (cB (cF Tryd.f26))))))) Q:=by
 induction k with
 | zero=>intro v3 v4 o h; cases h
 | succ k ih =>
  intro v3 v4 o h hQ
  rw [ref12_Gathered_l1] at h
  refine WL.round (Wp.seq (Wp.seq (rg [0,3,4,13] [1003] [(0,rs4 v0),(3,.row 1003),(4,vi v4),(13,vb (decide (v4 < (List.length v0:Int))))] [(1003,9,[rc9 v3])] (To.thenN (cn h (fun h=>?_) (fun h=>?_))))))
  ·refine Wp.skip (To.thenN (Wp.seq ?_))
   obtain ⟨o1,ho1,h⟩:=bind_of h
   refine kw [0,3,4] [1003] [(0,rs4 v0),(3,.row 1003),(4,vi v4)] [(1003,9,[rc9 v3])] (ok_ref12_Gathered_j2 n v0 v3 v4 o1 ho1 (To.thenN (rg [0,3,4] [1003] [(0,rs4 v0),(3,.row 1003),(4,vi (IntKind.wrap .i64 (v4 + 1)))] [(1003,9,[rc9 o1])] (kt [0,3,4] [1003] [(0,rs4 v0),(3,.row 1003),(4,vi (IntKind.wrap .i64 (v4 + 1)))] [(1003,9,[rc9 o1])] (To.again ?_)))))
   exact ih o1 (IntKind.wrap .i64 (v4 + 1)) _ h hQ
  ·refine Wp.exit (To.thenX (To.thenX (kt [0,3] [1003] [(0,rs4 v0),(3,.row 1003)] [(1003,9,[rc9 v3])] ?_)))
   cases h
   exact hQ
def ref12_Gathered_l3 (n:Nat) (v0:List (S_api_Var)) (v3:List (List UInt8)):Nat → (List (S_api_Var)) → Int → Option ((List (S_api_Var)))
 | 0,_,_=>none
 | k + 1,v5,v6=>if (decide (v6 < (List.length v3:Int))) = true then (if (decide (0 ≤ v6 ∧ v6 < (List.length v3:Int))) = true then ((ref12_Last n v0 ((v3)[Int.toNat v6]?.getD [])).bind fun r3 =>
 if (decide (0 ≤ v6 ∧ v6 < (List.length v3:Int))) = true then (if (decide ((List.length v5 + List.length ([(S_api_Var.mk ((v3)[Int.toNat v6]?.getD []) r3.1)]:List (S_api_Var))) * (32 + 1) ≤ limit)) = true then (ref12_Gathered_l3 n v0 v3 k (v5 ++ ([(S_api_Var.mk ((v3)[Int.toNat v6]?.getD []) r3.1)]:List (S_api_Var))) (IntKind.wrap .i64 (v6 + 1))) else none) else none) else none)
 else some v5
theorem ok_ref12_Gathered_l3 (n:Nat) (v0:List (S_api_Var)) (v3:List (List UInt8)) {F0:Fz} {w0:Pt Tryd.prog} {Q:Exit → Act → World → Prop} (k:Nat):∀ (v5:List (S_api_Var)) (v6:Int) (o:(List (S_api_Var))),ref12_Gathered_l3 n v0 v3 k v5 v6 = some o → To 58 F0 w0 [(5,.row 1005)] [(1005,43,[rc3 o])] (.exit 2) Q → WL Tryd.prog 58 F0 w0 [(0,rs4 v0),(3,ls v3),(5,.row 1005),(6,vi v6)] [(1005,43,[rc3 v5])] (cI (cI (cB (cA (cB (cB (cB (cB (cB (cF Tryd.f26)))))))))) Q:=by
 induction k with
 | zero=>intro v5 v6 o h; cases h
 | succ k ih =>
  intro v5 v6 o h hQ
  rw [ref12_Gathered_l3] at h
  refine WL.round (Wp.seq (Wp.seq (rg [0,3,5,6,36] [1005] [(0,rs4 v0),(3,ls v3),(5,.row 1005),(6,vi v6),(36,vb (decide (v6 < (List.length v3:Int))))] [(1005,43,[rc3 v5])] (To.thenN (cn h (fun h=>?_) (fun h=>?_))))))
  ·refine Wp.skip (To.thenN (Wp.seq (Wp.block (Wp.seq ?_))))
   obtain ⟨hc6,h⟩:=chk_of h
   obtain ⟨r3,hr3,h⟩:=bind_of h
   refine rr [] [(5,.tup [.str r3.1,vb r3.2])] [] [0,3,5,6,7] [1005] [(0,rs4 v0),(3,ls v3),(5,.row 1005),(6,vi v6),(7,.str r3.1)] [(1005,43,[rc3 v5])] [_,_] (AllP.cons hc6 (AllP.cons (c1 (ok_ref12_Last n v0 ((v3)[Int.toNat v6]?.getD []) _ hr3)) AllP.nil)) (To.thenN ?_)
   obtain ⟨hc4,h⟩:=chk_of h
   obtain ⟨hc5,h⟩:=chk_of h
   refine rr [] [(7,rs4 ([(S_api_Var.mk ((v3)[Int.toNat v6]?.getD []) r3.1)])),(8,rs4 (v5 ++ ([(S_api_Var.mk ((v3)[Int.toNat v6]?.getD []) r3.1)]:List (S_api_Var))))] [] [0,3,5,6] [56] [(0,rs4 v0),(3,ls v3),(5,.row 56),(6,vi v6)] [(56,43,[rc3 (v5 ++ ([(S_api_Var.mk ((v3)[Int.toNat v6]?.getD []) r3.1)]:List (S_api_Var)))])] [_,(MkOb 2 [.str ((v3)[Int.toNat v6]?.getD []),.str r3.1] 1 (rs4 ([(S_api_Var.mk ((v3)[Int.toNat v6]?.getD []) r3.1)])) ∧ GoodR (rs4 ([(S_api_Var.mk ((v3)[Int.toNat v6]?.getD []) r3.1)]))),_,(AppOb zx1 E_api_Var v5 (List.flatMap E_api_Var ([(S_api_Var.mk ((v3)[Int.toNat v6]?.getD []) r3.1)]:List (S_api_Var))) (List.length ([(S_api_Var.mk ((v3)[Int.toNat v6]?.getD []) r3.1)]:List (S_api_Var))) (rs4 (v5 ++ ([(S_api_Var.mk ((v3)[Int.toNat v6]?.getD []) r3.1)]:List (S_api_Var)))) ∧ GoodR (rs4 (v5 ++ ([(S_api_Var.mk ((v3)[Int.toNat v6]?.getD []) r3.1)]:List (S_api_Var)))))] (AllP.cons hc4 (AllP.cons (mkOb (by kernel_rfl) rfl (by kernel_rfl) (good_E_api_Var _)) (AllP.cons hc5 (AllP.cons (appOb rfl rfl (good_E_api_Var _)) AllP.nil)))) (To.blockN (To.thenN (rg [0,3,5,6] [56] [(0,rs4 v0),(3,ls v3),(5,.row 56),(ex4 v6)] [(56,43,[rc3 (v5 ++ ([(S_api_Var.mk ((v3)[Int.toNat v6]?.getD []) r3.1)]:List (S_api_Var)))])] (nt [0,3,5,6] [56] [(56,1005)] [0,3,5,6] [1005] [(0,rs4 v0),(3,ls v3),(5,.row 1005),(ex4 v6)] [(1005,43,[rc3 (v5 ++ ([(S_api_Var.mk ((v3)[Int.toNat v6]?.getD []) r3.1)]:List (S_api_Var)))])] (To.again ?_)))))
   exact ih (v5 ++ ([(S_api_Var.mk ((v3)[Int.toNat v6]?.getD []) r3.1)]:List (S_api_Var))) (IntKind.wrap .i64 (v6 + 1)) _ h hQ
  ·refine Wp.exit (To.thenX (To.thenX (kt [5] [1005] [(5,.row 1005)] [(1005,43,[rc3 v5])] ?_)))
   cases h
   exact hQ
def ref12_Gathered (n:Nat) (a0:List (S_api_Var)):Option ((List (S_api_Var))) :=
 (ref12_Gathered_l1 n a0 n ([]:List (List UInt8)) 0).bind fun o1 =>
 (ref02_Sorted n o1).bind fun r2 =>
 (ref12_Gathered_l3 n a0 r2 n ([]:List (S_api_Var)) 0).bind fun o3 =>
 some o3
theorem ok_ref12_Gathered (n:Nat) (a0:List (S_api_Var)) (r:(List (S_api_Var))) (h:ref12_Gathered n a0 = some r):CallsX Tryd.prog 26 [rs4 a0] (rs4 r):=by
 unfold ref12_Gathered at h
 refine xo Tryd.f26 rfl fun F0 w0 _=>?_
 refine Wp.seq (rg [0] [] [(0,rs4 a0)] [] (To.thenN (Wp.seq (rr [] [(0,ls [])] [] [0,3] [9] [(0,rs4 a0),(3,.row 9)] [(9,9,[rc9 []])] [(MkOb 1 [] 0 (ls []) ∧ GoodR (ls []))] (AllP.cons (mkOb (by kernel_rfl) rfl (by kernel_rfl) (good_E_string _)) AllP.nil) (To.thenN (Wp.seq (Wp.seq (rg [0,3,4] [9] [(0,rs4 a0),(3,.row 9),(4,vi 0)] [(9,9,[rc9 []])] (To.thenN (Wp.block ?_))))))))))
 obtain ⟨o1,ho1,h⟩:=bind_of h
 refine nw [0,3,4] [9] [(9,1003)] [0,3,4] [1003] [(0,rs4 a0),(3,.row 1003),(4,vi 0)] [(1003,9,[rc9 []])] (Wp.loopL (ok_ref12_Gathered_l1 n a0 n ([]:List (List UInt8)) 0 o1 ho1 (To.blockX (To.thenN (Wp.seq ?_)))))
 obtain ⟨r2,hr2,h⟩:=bind_of h
 refine rc [(1,[1003])] 1 [0,3] [] [(0,rs4 a0),(3,ls r2)] [] (ok_ref02_Sorted n o1 _ hr2) (To.thenN (Wp.seq (rr [] [(0,rs4 [])] [] [0,3,5] [32] [(0,rs4 a0),(3,ls r2),(5,.row 32)] [(32,43,[rc3 []])] [(MkOb 2 [] 0 (rs4 []) ∧ GoodR (rs4 []))] (AllP.cons (mkOb (by kernel_rfl) rfl (by kernel_rfl) (good_E_api_Var _)) AllP.nil) (To.thenN (Wp.seq (Wp.seq (rg [0,3,5,6] [32] [(0,rs4 a0),(3,ls r2),(5,.row 32),(6,vi 0)] [(32,43,[rc3 []])] (To.thenN (Wp.block ?_)))))))))
 obtain ⟨o3,ho3,h⟩:=bind_of h
 refine nw [0,3,5,6] [32] [(32,1005)] [0,3,5,6] [1005] [(0,rs4 a0),(3,ls r2),(5,.row 1005),(6,vi 0)] [(1005,43,[rc3 []])] (Wp.loopL (ok_ref12_Gathered_l3 n a0 r2 n ([]:List (S_api_Var)) 0 o3 ho3 (To.blockX (To.thenN (Wp.seq (rg [2] [1005] [(2,.row 1005)] [(1005,43,[rc3 o3])] (To.thenN (Wp.ret (To.pre (St.settle (ks:=[1005]) (kk:=[2]) (kl:=[1005]) (K':=[(2,.row 1005)]) (L':=[(1005,43,[rc5 o3])]) (by kernel_rfl)) (To.pre (St.sealK [2] (K':=[(2,rs4 o3)]) (by kernel_rfl)) ?_))))))))))
 cases h
 exact To.done hΓ (by kernel_rfl)
def ref12_Parse_l2 (n:Nat) (v0:List UInt8) (v5:List (S_api_Var)) (v6:Int):Nat → Int → Option (Int)
 | 0,_=>none
 | k + 1,v7=>if ((!((decide (v7 < (List.length v0:Int))) == true) || decide (0 ≤ v7 ∧ v7 < (List.length v0:Int)))) = true then (if (bif (decide (v7 < (List.length v0:Int))) then ((((v0)[Int.toNat v7]?.getD 0).toNat:Int) != 10) else false) = true then (ref12_Parse_l2 n v0 v5 v6 k (IntKind.wrap .i64 (v7 + 1)))
 else some v7) else none
theorem ok_ref12_Parse_l2 (n:Nat) (v0:List UInt8) (v5:List (S_api_Var)) (v6:Int) {F0:Fz} {w0:Pt Tryd.prog} {Q:Exit → Act → World → Prop} (k:Nat):∀ (v7:Int) (o:Int),ref12_Parse_l2 n v0 v5 v6 k v7 = some o → To 64 F0 w0 [(0,.str v0),(5,.row 1005),(6,vi v6),(7,vi o)] [(1005,43,[rc3 v5])] (.exit 2) Q → WL Tryd.prog 64 F0 w0 [(0,.str v0),(5,.row 1005),(6,vi v6),(7,vi v7)] [(1005,43,[rc3 v5])] (cI (cI (cA (cB (cB (cI (cB (cI (cI (cA (cB (cB (cB (cB (cF Tryd.f20))))))))))))))) Q:=by
 induction k with
 | zero=>intro v7 o h; cases h
 | succ k ih =>
  intro v7 o h hQ
  rw [ref12_Parse_l2] at h
  refine WL.round (Wp.seq (Wp.seq ?_))
  obtain ⟨hc1,h⟩:=chk_of h
  refine r0 [0,5,6,7,29] [1005] [(0,.str v0),(5,.row 1005),(6,vi v6),(7,vi v7),(29,vb (bif (ex12 v7 v0) then ((ex11 v0 v7) != 10) else false))] [(1005,43,[rc3 v5])] (AllP.cons hc1 AllP.nil) (To.thenN (cn h (fun h=>?_) (fun h=>?_)))
  ·refine Wp.skip (To.thenN (Wp.block (rg [0,5,6,7] [1005] [(0,.str v0),(5,.row 1005),(6,vi v6),(7,vi (IntKind.wrap .i64 (v7 + 1)))] [(1005,43,[rc3 v5])] (To.blockN (To.again ?_)))))
   exact ih (IntKind.wrap .i64 (v7 + 1)) _ h hQ
  ·refine Wp.exit (To.thenX (To.thenX (kt [0,5,6,7] [1005] [(0,.str v0),(5,.row 1005),(6,vi v6),(7,vi v7)] [(1005,43,[rc3 v5])] ?_)))
   cases h
   exact hQ
def ref12_Parse_j3 (n:Nat) (v0:List UInt8) (v5:List (S_api_Var)) (v6:Int) (v7:Int) (v45:Bool) (b8:S_api_Var):Option ((List (S_api_Var))) :=
 if v45 = true then (if (decide ((List.length v5 + List.length ([b8]:List (S_api_Var))) * (32 + 1) ≤ limit)) = true then (some (v5 ++ ([b8]:List (S_api_Var)))) else none)
 else some v5
theorem ok_ref12_Parse_j3 (n:Nat) (v0:List UInt8) (v5:List (S_api_Var)) (v6:Int) (v7:Int) (v45:Bool) (b8:S_api_Var) (o:(List (S_api_Var))) (h:ref12_Parse_j3 n v0 v5 v6 v7 v45 b8 = some o) {F0:Fz} {w0:Pt Tryd.prog} {Q:Exit → Act → World → Prop} (hQ:To 64 F0 w0 [(0,.str v0),(5,.row 1005),(6,vi v6),(7,vi v7)] [(1005,43,[rc3 o])] .normal Q):Wp Tryd.prog 64 F0 w0 [(0,.str v0),(5,.row 1005),(6,vi v6),(7,vi v7),(8,.own 8 0),(45,vb v45)] [(8,43,qc6 b8),(1005,43,[rc3 v5])] (cB (cA (cB (cB (cB (cB (cB (cI (cB (cI (cI (cA (cB (cB (cB (cB (cF Tryd.f20))))))))))))))))) Q:=by
 unfold ref12_Parse_j3 at h
 refine cn h (fun h=>?_) (fun h=>?_)
 ·obtain ⟨hc3,h⟩:=chk_of h
  refine rr [] [(2,rs4 [b8]),(3,rs4 (v5 ++ ([b8]:List (S_api_Var))))] [] [0,5,6,7] [49] [(0,.str v0),(5,.row 49),(6,vi v6),(7,vi v7)] [(49,43,[rc3 (v5 ++ ([b8]:List (S_api_Var)))])] [(MkOb 2 (qc6 b8) 1 (rs4 [b8]) ∧ GoodR (rs4 [b8])),_,(AppOb zx1 E_api_Var v5 (List.flatMap E_api_Var ([b8]:List (S_api_Var))) (List.length ([b8]:List (S_api_Var))) (rs4 (v5 ++ ([b8]:List (S_api_Var)))) ∧ GoodR (rs4 (v5 ++ ([b8]:List (S_api_Var)))))] (AllP.cons (mkOb (by kernel_rfl) rfl (by kernel_rfl) (good_E_api_Var _)) (AllP.cons hc3 (AllP.cons (appOb rfl rfl (good_E_api_Var _)) AllP.nil))) (nt [0,5,6,7] [49] [(49,1005)] [0,5,6,7] [1005] [(0,.str v0),(5,.row 1005),(6,vi v6),(7,vi v7)] [(1005,43,[rc3 (v5 ++ ([b8]:List (S_api_Var)))])] ?_)
  cases h
  exact hQ
 ·refine Wp.skip (kt [0,5,6,7] [1005] [(0,.str v0),(5,.row 1005),(6,vi v6),(7,vi v7)] [(1005,43,[rc3 v5])] ?_)
  cases h
  exact hQ
def ref12_Parse_l1 (n:Nat):Nat → (List UInt8) → (List (S_api_Var)) → Int → Option (Sum ((List (S_api_Var))) (Int × Int))
 | 0,_,_,_=>none
 | k + 1,v0,v5,v6=>if (decide ((List.length v0:Int) > 0)) = true then ((ref12_Parse_l2 n v0 v5 (IntKind.wrap .i64 (v6 + 1)) n 0).bind fun o1 =>
 if (decide (0 ≤ o1 ∧ o1 ≤ (List.length v0:Int))) = true then ((ref12_line n (List.take (Int.toNat o1) v0)).bind fun r2 =>
 if (!r2.2) = true then (some (.inr ((IntKind.wrap .i64 (v6 + 1)),3)))
 else ((ref12_Parse_j3 n v0 v5 (IntKind.wrap .i64 (v6 + 1)) o1 (decide ((List.length r2.1.f_Key:Int) > 0)) r2.1).bind fun o3 =>
 if (o1 == (List.length v0:Int)) = true then (some (.inl o3))
 else (if (decide (0 ≤ (IntKind.wrap .i64 (o1 + 1)) ∧ (IntKind.wrap .i64 (o1 + 1)) ≤ (List.length v0:Int))) = true then (ref12_Parse_l1 n k (List.drop (Int.toNat (IntKind.wrap .i64 (o1 + 1))) v0) o3 (IntKind.wrap .i64 (v6 + 1))) else none))) else none)
 else (some (.inl v5))
theorem ok_ref12_Parse_l1 (n:Nat) {F0:Fz} {w0:Pt Tryd.prog} {Q:Exit → Act → World → Prop} (k:Nat):∀ (v0:List UInt8) (v5:List (S_api_Var)) (v6:Int) (o:Sum ((List (S_api_Var))) (Int × Int)),ref12_Parse_l1 n k v0 v5 v6 = some o → (Sum.elim (fun s=>To 64 F0 w0 [(5,.row 1005)] [(1005,43,[rc3 s])] (.exit 0) Q) (fun s=>To 64 F0 w0 [(2,.val (.slice none 0 0)),(3,vi s.1),(4,vi s.2)] [] .ret Q)) o → WL Tryd.prog 64 F0 w0 [(0,.str v0),(5,.row 1005),(6,vi v6)] [(1005,43,[rc3 v5])] (cI (cI (cA (cB (cB (cB (cB (cF Tryd.f20)))))))) Q:=by
 induction k with
 | zero=>intro v0 v5 v6 o h; cases h
 | succ k ih =>
  intro v0 v5 v6 o h hQ
  rw [ref12_Parse_l1] at h
  refine WL.round (Wp.seq (Wp.seq (rg [0,5,6,17] [1005] [(0,.str v0),(5,.row 1005),(6,vi v6),(17,vb (ex8 v0))] [(1005,43,[rc3 v5])] (To.thenN (cn h (fun h=>?_) (fun h=>?_))))))
  ·refine Wp.skip (To.thenN (Wp.block (Wp.seq (rg [0,5,6] [1005] [(0,.str v0),(5,.row 1005),(ex4 v6)] [(1005,43,[rc3 v5])] (To.thenN (Wp.seq (rg [0,5,6,7] [1005] [(0,.str v0),(5,.row 1005),(ex4 v6),(7,vi 0)] [(1005,43,[rc3 v5])] (To.thenN (Wp.seq (Wp.block ?_))))))))))
   obtain ⟨o1,ho1,h⟩:=bind_of h
   refine kw [0,5,6,7] [1005] [(0,.str v0),(5,.row 1005),(ex4 v6),(7,vi 0)] [(1005,43,[rc3 v5])] (Wp.loopL (ok_ref12_Parse_l2 n v0 v5 (IntKind.wrap .i64 (v6 + 1)) n 0 o1 ho1 (To.blockX (To.thenN (Wp.seq ?_)))))
   obtain ⟨hc5,h⟩:=chk_of h
   obtain ⟨r2,hr2,h⟩:=bind_of h
   refine rr [] [(3,.tup [.agg (qc6 r2.1),vb r2.2])] [] [0,5,6,7,8,9] [8,1005] [(0,.str v0),(5,.row 1005),(ex4 v6),(7,vi o1),(8,.own 8 0),(9,vb r2.2)] [(8,43,qc6 r2.1),(1005,43,[rc3 v5])] [_,_] (AllP.cons hc5 (AllP.cons (c1 (ok_ref12_line n (List.take (Int.toNat o1) v0) _ hr2)) AllP.nil)) (To.thenN (Wp.seq (Wp.seq (rg [0,5,6,7,8,40] [8,1005] [(0,.str v0),(5,.row 1005),(ex4 v6),(7,vi o1),(8,.own 8 0),(40,vb (!r2.2))] [(8,43,qc6 r2.1),(1005,43,[rc3 v5])] (To.thenN (cn h (fun h=>?_) (fun h=>?_)))))))
   ·refine Wp.seq (rg [2,3,4] [] [(2,.val (.slice none 0 0)),(3,vi (IntKind.wrap .i64 (v6 + 1))),(4,vi 3)] [] (To.thenN (Wp.ret (To.thenR (To.blockR (To.thenR ?_))))))
    cases h
    exact hQ
   ·refine Wp.skip (To.thenN (Wp.seq (Wp.seq (rg [0,5,6,7,8,45] [8,1005] [(0,.str v0),(5,.row 1005),(ex4 v6),(7,vi o1),(8,.own 8 0),(45,vb (decide ((List.length r2.1.f_Key:Int) > 0)))] [(8,43,qc6 r2.1),(1005,43,[rc3 v5])] (To.thenN ?_)))))
    obtain ⟨o3,ho3,h⟩:=bind_of h
    refine kw [0,5,6,7,8,45] [8,1005] [(0,.str v0),(5,.row 1005),(ex4 v6),(7,vi o1),(8,.own 8 0),(45,vb (decide ((List.length r2.1.f_Key:Int) > 0)))] [(8,43,qc6 r2.1),(1005,43,[rc3 v5])] (ok_ref12_Parse_j3 n v0 v5 (IntKind.wrap .i64 (v6 + 1)) o1 (decide ((List.length r2.1.f_Key:Int) > 0)) r2.1 o3 ho3 (To.thenN (Wp.seq (Wp.seq (rg [0,5,6,7,53] [1005] [(0,.str v0),(5,.row 1005),(ex4 v6),(7,vi o1),(53,vb (o1 == (List.length v0:Int)))] [(1005,43,[rc3 o3])] (To.thenN (cn h (fun h=>?_) (fun h=>?_))))))))
    ·refine Wp.exit (To.thenX (To.blockO (by decide) (To.thenX (kt [5] [1005] [(5,.row 1005)] [(1005,43,[rc3 o3])] ?_))))
     cases h
     exact hQ
    ·refine Wp.skip (To.thenN ?_)
     obtain ⟨hc4,h⟩:=chk_of h
     refine r0 [0,5,6] [1005] [(0,.str (List.drop (Int.toNat (IntKind.wrap .i64 (o1 + 1))) v0)),(5,.row 1005),(ex4 v6)] [(1005,43,[rc3 o3])] (AllP.cons hc4 AllP.nil) (To.blockN (To.again ?_))
     exact ih (List.drop (Int.toNat (IntKind.wrap .i64 (o1 + 1))) v0) o3 (IntKind.wrap .i64 (v6 + 1)) _ h hQ
  ·refine Wp.exit (To.thenX (To.thenX (kt [5] [1005] [(5,.row 1005)] [(1005,43,[rc3 v5])] ?_)))
   cases h
   exact hQ
def ref12_Parse (n:Nat) (a0:List UInt8):Option ((List (S_api_Var)) × Int × Int) :=
 if (decide ((List.length a0:Int) > 8192)) = true then (some ([],0,9))
 else ((ref12_Parse_l1 n n a0 ([]:List (S_api_Var)) 0).bind fun o1 =>
 (Sum.elim (fun o1=>(ref12_Gathered n o1).bind fun r2 =>
 if (decide ((List.length r2:Int) > 64)) = true then (some ([],0,9))
 else (some (r2,0,0))) (fun o1=>some ([],o1.1,o1.2))) o1)
theorem ok_ref12_Parse (n:Nat) (a0:List UInt8) (r:(List (S_api_Var)) × Int × Int) (h:ref12_Parse n a0 = some r):CallsX Tryd.prog 20 [.str a0] (.tup [rs4 r.1,vi r.2.1,vi r.2.2]):=by
 unfold ref12_Parse at h
 refine xo Tryd.f20 rfl fun F0 w0 _=>?_
 refine Wp.seq (rg [0] [] [(0,.str a0)] [] (To.thenN (Wp.seq (Wp.seq (rg [0,13] [] [(0,.str a0),(13,vb (decide ((List.length a0:Int) > 8192)))] [] (To.thenN (cn h (fun h=>?_) (fun h=>?_))))))))
 ·refine Wp.seq (rg [2,3,4] [] [(2,.val (.slice none 0 0)),(3,vi 0),(4,vi 9)] [] (To.thenN (Wp.ret (To.thenR (To.weak (K':=[(2,rs4 []),(3,vi 0),(4,vi 9)]) (L':=[]) (.cons (.zero _ _) (.cons (.refl _) (.cons (.refl _) .nil))) .nil ?_)))))
  cases h
  exact To.done hΓ (by kernel_rfl)
 ·refine Wp.skip (To.thenN (Wp.seq (rr [] [(0,rs4 [])] [] [0,5] [14] [(0,.str a0),(5,.row 14)] [(14,43,[rc3 []])] [(MkOb 2 [] 0 (rs4 []) ∧ GoodR (rs4 []))] (AllP.cons (mkOb (by kernel_rfl) rfl (by kernel_rfl) (good_E_api_Var _)) AllP.nil) (To.thenN (Wp.seq (rg [0,5,6] [14] [(0,.str a0),(5,.row 14),(6,vi 0)] [(14,43,[rc3 []])] (To.thenN (Wp.seq (Wp.block ?_)))))))))
  obtain ⟨o1,ho1,h⟩:=bind_of h
  refine nw [0,5,6] [14] [(14,1005)] [0,5,6] [1005] [(0,.str a0),(5,.row 1005),(6,vi 0)] [(1005,43,[rc3 []])] (Wp.loopL (ok_ref12_Parse_l1 n n a0 ([]:List (S_api_Var)) 0 o1 ho1 ?_))
  rcases o1 with o1 | o1
  ·replace h:=sum_l h
   refine To.blockX (To.thenN (Wp.seq ?_))
   obtain ⟨r2,hr2,h⟩:=bind_of h
   refine rc [(1,[1005])] 1 [10] [] [(10,rs4 r2)] [] (ok_ref12_Gathered n o1 _ hr2) (To.thenN (Wp.seq (Wp.seq (rg [10,62] [] [(10,rs4 r2),(62,vb (decide ((List.length r2:Int) > 64)))] [] (To.thenN (cn h (fun h=>?_) (fun h=>?_)))))))
   ·refine Wp.seq (rg [2,3,4] [] [(2,.val (.slice none 0 0)),(3,vi 0),(4,vi 9)] [] (To.thenN (Wp.ret (To.thenR (To.weak (K':=[(2,rs4 []),(3,vi 0),(4,vi 9)]) (L':=[]) (.cons (.zero _ _) (.cons (.refl _) (.cons (.refl _) .nil))) .nil ?_)))))
    cases h
    exact To.done hΓ (by kernel_rfl)
   ·refine Wp.skip (To.thenN (Wp.seq (rg [2,3,4] [] [(2,rs4 r2),(3,vi 0),(4,vi 0)] [] (To.thenN (Wp.ret ?_)))))
    cases h
    exact To.done hΓ (by kernel_rfl)
  ·replace h:=sum_r h
   refine To.blockR (To.thenR (kt [2,3,4] [] [(2,.val (.slice none 0 0)),(3,vi o1.1),(4,vi o1.2)] [] (To.weak (K':=[(2,rs4 []),(3,vi o1.1),(4,vi o1.2)]) (L':=[]) (.cons (.zero _ _) (.cons (.refl _) (.cons (.refl _) .nil))) .nil ?_)))
   cases h
   exact To.done hΓ (by kernel_rfl)
def law12_EnvParses (n:Nat) (a0:List UInt8):Option (Bool) :=
 if (decide ((List.length a0:Int) > 9000)) = true then ((law12_awake n).bind fun r1 =>
 some r1)
 else ((env_Parse n a0).bind fun r2 =>
 (ref12_Parse n a0).bind fun r3 =>
 (ref12_Same n r2.1 r3.1).bind fun r4 =>
 ((if ((bif (bif r4 then (r2.2.1 == r3.2.1) else false) then (r2.2.2 == r3.2.2) else false) == true) = true then law12_awake n else some false)).bind fun r5 =>
 some (bif (bif (bif r4 then (r2.2.1 == r3.2.1) else false) then (r2.2.2 == r3.2.2) else false) then r5 else false))
theorem ok_law12_EnvParses (n:Nat) (a0:List UInt8) (r:Bool) (h:law12_EnvParses n a0 = some r):CallsX Tryd.prog 5 [.str a0] (vb r):=by
 unfold law12_EnvParses at h
 refine xo Tryd.f5 rfl fun F0 w0 _=>?_
 refine Wp.seq (rg [0] [] [(0,.str a0)] [] (To.thenN (Wp.seq (Wp.seq (rg [0,11] [] [(0,.str a0),(11,vb (decide ((List.length a0:Int) > 9000)))] [] (To.thenN (cn h (fun h=>?_) (fun h=>?_))))))))
 ·refine Wp.seq ?_
  obtain ⟨r1,hr1,h⟩:=bind_of h
  refine rc [] 0 [2] [] [(2,vb r1)] [] (ok_law12_awake n  _ hr1) (To.thenN (Wp.ret (To.thenR ?_)))
  cases h
  exact To.done hΓ (by kernel_rfl)
 ·refine Wp.skip (To.thenN (Wp.seq ?_))
  obtain ⟨r2,hr2,h⟩:=bind_of h
  refine rc [] 1 [0,3,4,5] [] [(0,.str a0),(3,rs4 r2.1),(4,vi r2.2.1),(5,vi r2.2.2)] [] (ok_env_Parse n a0 _ hr2) (To.thenN (Wp.seq ?_))
  obtain ⟨r3,hr3,h⟩:=bind_of h
  refine rc [] 1 [3,4,5,6,7,8] [] [(3,rs4 r2.1),(4,vi r2.2.1),(5,vi r2.2.2),(6,rs4 r3.1),(7,vi r3.2.1),(8,vi r3.2.2)] [] (ok_ref12_Parse n a0 _ hr3) (To.thenN (Wp.seq ?_))
  obtain ⟨r4,hr4,h⟩:=bind_of h
  obtain ⟨r5,hr5,h⟩:=bind_of h
  refine rr [] [(2,vb r4),(14,vb r5)] [] [2] [] [(2,vb (bif (bif (bif r4 then (r2.2.1 == r3.2.1) else false) then (r2.2.2 == r3.2.2) else false) then r5 else false))] [] [_,(((bif (bif r4 then (r2.2.1 == r3.2.1) else false) then (r2.2.2 == r3.2.2) else false) == true) = true → CX Tryd.prog 18 [] (vb r5))] (AllP.cons (c1 (ok_ref12_Same n r2.1 r3.1 _ hr4)) (AllP.cons (fun hg=>cx (ok_law12_awake n  _ (if_t hg hr5))) AllP.nil)) (To.thenN (Wp.ret ?_))
  cases h
  exact To.done hΓ (by kernel_rfl)
end Go.Proofs.YtibgdilkodjojaaDoor.M
