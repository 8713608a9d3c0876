import Derived.Test.YtaecmkldkljioaaQM36a
set_option linter.all false
namespace Go.Proofs.Ytaecmkldkljioaa.M
open Go.RowKit Go.Proofs.Ytaecmkldkljioaa.RX
set_option maxRecDepth 100000
abbrev ex18 (x0:Int) (x1:Int):=(IntKind.wrap .i64 ((Int.fdiv (IntKind.wrap .u64 ((IntKind.wrap .i64 (x0 + x1)))) (2 ^ (min (Int.toNat 1) (IntKind.bits .u64))))))
theorem ok_slices_symMergeCmpFunc_api_Container__r0__view_sorted_1_b (R_slices_symMergeCmpFunc_api_Container__r0__view_sorted_1:Int → Int → Int → (List (S_api_Container)) → Option ((List (S_api_Container)))) (hR_slices_symMergeCmpFunc_api_Container__r0__view_sorted_1:hR8 R_slices_symMergeCmpFunc_api_Container__r0__view_sorted_1) (n:Nat) (a1:Int) (a2:Int) (a3:Int) (h0:List (S_api_Container)) (r:(List (S_api_Container))) (h:slices_symMergeCmpFunc_api_Container__r0__view_sorted_1_b R_slices_symMergeCmpFunc_api_Container__r0__view_sorted_1 n a1 a2 a3 h0 = some r):CallsB Try.prog 102 [.row 1000000,vi a1,vi a2,vi a3,.fn 67 []] [(1000000,49,[rc7 h0])] (.tup []) [(1000000,49,[rc7 r])]:=by
 unfold slices_symMergeCmpFunc_api_Container__r0__view_sorted_1_b at h
 refine bo Try.f102 rfl fun F0 w0=>?_
 refine Wp.seq (Wp.seq (rg [0,1,2,3,4,28] [1000000] [(0,.row 1000000),(1,vi a1),(2,vi a2),(3,vi a3),(4,.fn 67 []),(28,vb ((IntKind.wrap .i64 (a2 - a1)) == 1))] [(1000000,49,[rc7 h0])] (To.thenN (cn h (fun h=>?_) (fun h=>?_)))))
 ·refine Wp.seq (rg [0,1,3,4,10] [1000000] [(0,.row 1000000),(1,vi a1),(3,vi a3),(4,.fn 67 []),(10,vi a2)] [(1000000,49,[rc7 h0])] (To.thenN (Wp.seq (rg [0,1,4,10,11] [1000000] [(0,.row 1000000),(1,vi a1),(4,.fn 67 []),(10,vi a2),(11,vi a3)] [(1000000,49,[rc7 h0])] (To.thenN (Wp.seq (Wp.block ?_)))))))
  obtain ⟨o1,ho1,h⟩:=bind_of h
  refine kw [0,1,4,10,11] [1000000] [(0,.row 1000000),(1,vi a1),(4,.fn 67 []),(10,vi a2),(11,vi a3)] [(1000000,49,[rc7 h0])] (Wp.loopL (ok_slices_symMergeCmpFunc_api_Container__r0__view_sorted_1_l1 R_slices_symMergeCmpFunc_api_Container__r0__view_sorted_1 hR_slices_symMergeCmpFunc_api_Container__r0__view_sorted_1 n h0 a1 n a2 a3 o1 ho1 (To.blockX (To.thenN (Wp.seq (Wp.seq (rg [0,10,13] [1000000] [(0,.row 1000000),(10,vi o1),(13,vi a1)] [(1000000,49,[rc7 h0])] (To.thenN (Wp.block ?_)))))))))
  obtain ⟨o2,ho2,h⟩:=bind_of h
  refine kw [0,10,13] [1000000] [(0,.row 1000000),(10,vi o1),(13,vi a1)] [(1000000,49,[rc7 h0])] (Wp.loopL (ok_slices_symMergeCmpFunc_api_Container__r0__view_sorted_1_l2 R_slices_symMergeCmpFunc_api_Container__r0__view_sorted_1 hR_slices_symMergeCmpFunc_api_Container__r0__view_sorted_1 n o1 n h0 a1 o2 ho2 (To.blockX (To.thenN (Wp.ret (To.thenR ?_))))))
  cases h
  exact To.doneB hΓ [1000000] (by kernel_rfl) (by kernel_rfl)
 ·refine Wp.skip (To.thenN (Wp.seq (Wp.seq (rg [0,1,2,3,4,80] [1000000] [(0,.row 1000000),(1,vi a1),(2,vi a2),(3,vi a3),(4,.fn 67 []),(80,vb ((IntKind.wrap .i64 (a3 - a2)) == 1))] [(1000000,49,[rc7 h0])] (To.thenN (cn h (fun h=>?_) (fun h=>?_)))))))
  ·refine Wp.seq (rg [0,2,4,14] [1000000] [(0,.row 1000000),(2,vi a2),(4,.fn 67 []),(14,vi a1)] [(1000000,49,[rc7 h0])] (To.thenN (Wp.seq (rg [0,2,4,14,15] [1000000] [(0,.row 1000000),(2,vi a2),(4,.fn 67 []),(14,vi a1),(15,vi a2)] [(1000000,49,[rc7 h0])] (To.thenN (Wp.seq (Wp.block ?_)))))))
   obtain ⟨o3,ho3,h⟩:=bind_of h
   refine kw [0,2,4,14,15] [1000000] [(0,.row 1000000),(2,vi a2),(4,.fn 67 []),(14,vi a1),(15,vi a2)] [(1000000,49,[rc7 h0])] (Wp.loopL (ok_slices_symMergeCmpFunc_api_Container__r0__view_sorted_1_l3 R_slices_symMergeCmpFunc_api_Container__r0__view_sorted_1 hR_slices_symMergeCmpFunc_api_Container__r0__view_sorted_1 n h0 a2 n a1 a2 o3 ho3 (To.blockX (To.thenN (Wp.seq (Wp.seq (rg [0,14,17] [1000000] [(0,.row 1000000),(14,vi o3),(17,vi a2)] [(1000000,49,[rc7 h0])] (To.thenN (Wp.block ?_)))))))))
   obtain ⟨o4,ho4,h⟩:=bind_of h
   refine kw [0,14,17] [1000000] [(0,.row 1000000),(14,vi o3),(17,vi a2)] [(1000000,49,[rc7 h0])] (Wp.loopL (ok_slices_symMergeCmpFunc_api_Container__r0__view_sorted_1_l4 R_slices_symMergeCmpFunc_api_Container__r0__view_sorted_1 hR_slices_symMergeCmpFunc_api_Container__r0__view_sorted_1 n o3 n h0 a2 o4 ho4 (To.blockX (To.thenN (Wp.ret (To.thenR ?_))))))
   cases h
   exact To.doneB hΓ [1000000] (by kernel_rfl) (by kernel_rfl)
  ·refine Wp.skip (To.thenN (Wp.seq ?_))
   obtain ⟨hc12,h⟩:=chk_of h
   obtain ⟨x5,hx5,h⟩:=lett_of h
   refine r0 [0,1,2,3,4,18] [1000000] [(0,.row 1000000),(1,vi a1),(2,vi a2),(3,vi a3),(4,.fn 67 []),(18,vi (ex18 a1 a3))] [(1000000,49,[rc7 h0])] (AllP.cons hc12 AllP.nil) (To.eq (K':=[(0,.row 1000000),(1,vi a1),(2,vi a2),(3,vi a3),(4,.fn 67 []),(18,vi x5)]) (L':=[(1000000,49,[rc7 h0])]) (by cases hx5; rfl) (by cases hx5; rfl) (To.thenN (Wp.seq (rg [0,1,2,3,4,18,19] [1000000] [(0,.row 1000000),(1,vi a1),(2,vi a2),(3,vi a3),(4,.fn 67 []),(18,vi x5),(19,vi (IntKind.wrap .i64 (x5 + a2)))] [(1000000,49,[rc7 h0])] (To.thenN (Wp.seq (rg [0,1,2,3,4,18,19] [1000000] [(0,.row 1000000),(1,vi a1),(2,vi a2),(3,vi a3),(4,.fn 67 []),(18,vi x5),(19,vi (IntKind.wrap .i64 (x5 + a2)))] [(1000000,49,[rc7 h0])] (To.thenN (Wp.seq (Wp.seq ?_))))))))))
   refine rg [0,1,2,3,4,18,19,140] [1000000] [(0,.row 1000000),(1,vi a1),(2,vi a2),(3,vi a3),(4,.fn 67 []),(18,vi x5),(19,vi (IntKind.wrap .i64 (x5 + a2))),(140,vb (decide (a2 > x5)))] [(1000000,49,[rc7 h0])] (To.thenN ?_)
   obtain ⟨o6,ho6,h⟩:=bind_of h
   refine kw [0,1,2,3,4,18,19,140] [1000000] [(0,.row 1000000),(1,vi a1),(2,vi a2),(3,vi a3),(4,.fn 67 []),(18,vi x5),(19,vi (IntKind.wrap .i64 (x5 + a2))),(140,vb (decide (a2 > x5)))] [(1000000,49,[rc7 h0])] (ok_slices_symMergeCmpFunc_api_Container__r0__view_sorted_1_j5 R_slices_symMergeCmpFunc_api_Container__r0__view_sorted_1 hR_slices_symMergeCmpFunc_api_Container__r0__view_sorted_1 n h0 a1 a2 a3 x5 (IntKind.wrap .i64 (x5 + a2)) (decide (a2 > x5)) o6 ho6 (To.thenN (Wp.seq (rg [0,1,2,3,4,18,19,20,21,22] [1000000] [(0,.row 1000000),(1,vi a1),(2,vi a2),(3,vi a3),(4,.fn 67 []),(18,vi x5),(19,vi (IntKind.wrap .i64 (x5 + a2))),(20,vi o6.1),(21,vi o6.2),(22,vi (IntKind.wrap .i64 ((IntKind.wrap .i64 (x5 + a2)) - 1)))] [(1000000,49,[rc7 h0])] (To.thenN (Wp.seq (Wp.block ?_)))))))
   obtain ⟨o7,ho7,h⟩:=bind_of h
   refine kw [0,1,2,3,4,18,19,20,21,22] [1000000] [(0,.row 1000000),(1,vi a1),(2,vi a2),(3,vi a3),(4,.fn 67 []),(18,vi x5),(19,vi (IntKind.wrap .i64 (x5 + a2))),(20,vi o6.1),(21,vi o6.2),(22,vi (IntKind.wrap .i64 ((IntKind.wrap .i64 (x5 + a2)) - 1)))] [(1000000,49,[rc7 h0])] (Wp.loopL (ok_slices_symMergeCmpFunc_api_Container__r0__view_sorted_1_l6 R_slices_symMergeCmpFunc_api_Container__r0__view_sorted_1 hR_slices_symMergeCmpFunc_api_Container__r0__view_sorted_1 n h0 a1 a2 a3 x5 (IntKind.wrap .i64 (x5 + a2)) (IntKind.wrap .i64 ((IntKind.wrap .i64 (x5 + a2)) - 1)) n o6.1 o6.2 o7 ho7 (To.blockX (To.thenN (Wp.seq (rg [0,1,2,3,4,18,20,24] [1000000] [(0,.row 1000000),(1,vi a1),(2,vi a2),(3,vi a3),(4,.fn 67 []),(18,vi x5),(20,vi o7),(24,vi (IntKind.wrap .i64 ((IntKind.wrap .i64 (x5 + a2)) - o7)))] [(1000000,49,[rc7 h0])] (To.thenN (Wp.seq (Wp.seq (rg [0,1,2,3,4,18,20,24,185] [1000000] [(0,.row 1000000),(1,vi a1),(2,vi a2),(3,vi a3),(4,.fn 67 []),(18,vi x5),(20,vi o7),(24,vi (IntKind.wrap .i64 ((IntKind.wrap .i64 (x5 + a2)) - o7))),(185,vb (bif (decide (o7 < a2)) then (decide (a2 < (IntKind.wrap .i64 ((IntKind.wrap .i64 (x5 + a2)) - o7)))) else false))] [(1000000,49,[rc7 h0])] ?_))))))))))
   refine To.thenN ?_
   obtain ⟨o8,ho8,h⟩:=bind_of h
   refine kw [0,1,2,3,4,18,20,24,185] [1000000] [(0,.row 1000000),(1,vi a1),(2,vi a2),(3,vi a3),(4,.fn 67 []),(18,vi x5),(20,vi o7),(24,vi (IntKind.wrap .i64 ((IntKind.wrap .i64 (x5 + a2)) - o7))),(185,vb (bif (decide (o7 < a2)) then (decide (a2 < (IntKind.wrap .i64 ((IntKind.wrap .i64 (x5 + a2)) - o7)))) else false))] [(1000000,49,[rc7 h0])] (ok_slices_symMergeCmpFunc_api_Container__r0__view_sorted_1_j7 R_slices_symMergeCmpFunc_api_Container__r0__view_sorted_1 hR_slices_symMergeCmpFunc_api_Container__r0__view_sorted_1 n h0 a1 a2 a3 x5 o7 (IntKind.wrap .i64 ((IntKind.wrap .i64 (x5 + a2)) - o7)) (bif (decide (o7 < a2)) then (decide (a2 < (IntKind.wrap .i64 ((IntKind.wrap .i64 (x5 + a2)) - o7)))) else false) o8 ho8 (To.thenN (Wp.seq (Wp.seq (rg [0,1,3,4,18,20,24,199] [1000000] [(0,.row 1000000),(1,vi a1),(3,vi a3),(4,.fn 67 []),(18,vi x5),(20,vi o7),(24,vi (IntKind.wrap .i64 ((IntKind.wrap .i64 (x5 + a2)) - o7))),(199,vb (bif (decide (a1 < o7)) then (decide (o7 < x5)) else false))] [(1000000,49,[rc7 o8])] (To.thenN ?_))))))
   obtain ⟨o9,ho9,h⟩:=bind_of h
   refine kw [0,1,3,4,18,20,24,199] [1000000] [(0,.row 1000000),(1,vi a1),(3,vi a3),(4,.fn 67 []),(18,vi x5),(20,vi o7),(24,vi (IntKind.wrap .i64 ((IntKind.wrap .i64 (x5 + a2)) - o7))),(199,vb (bif (decide (a1 < o7)) then (decide (o7 < x5)) else false))] [(1000000,49,[rc7 o8])] (ok_slices_symMergeCmpFunc_api_Container__r0__view_sorted_1_j8 R_slices_symMergeCmpFunc_api_Container__r0__view_sorted_1 hR_slices_symMergeCmpFunc_api_Container__r0__view_sorted_1 n o8 a1 a3 x5 o7 (IntKind.wrap .i64 ((IntKind.wrap .i64 (x5 + a2)) - o7)) (bif (decide (a1 < o7)) then (decide (o7 < x5)) else false) o9 ho9 (To.thenN (Wp.seq ?_)))
   obtain ⟨x10,hx10,h⟩:=lett_of h
   refine rg [0,3,4,18,24,213] [1000000] [(0,.row 1000000),(3,vi a3),(4,.fn 67 []),(18,vi x5),(24,vi (IntKind.wrap .i64 ((IntKind.wrap .i64 (x5 + a2)) - o7))),(213,vb (bif (decide (x5 < (IntKind.wrap .i64 ((IntKind.wrap .i64 (x5 + a2)) - o7)))) then (decide ((IntKind.wrap .i64 ((IntKind.wrap .i64 (x5 + a2)) - o7)) < a3)) else false))] [(1000000,49,[rc7 o9])] (To.eq (K':=[(0,.row 1000000),(3,vi a3),(4,.fn 67 []),(18,vi x5),(24,vi (IntKind.wrap .i64 ((IntKind.wrap .i64 (x5 + a2)) - o7))),(213,vb x10)]) (L':=[(1000000,49,[rc7 o9])]) (by cases hx10; rfl) (by cases hx10; rfl) (To.thenN (cn h (fun h=>?_) (fun h=>?_))))
   ·obtain ⟨r11,hr11,h⟩:=bind_of h
    refine rb [] 5 ⟨[(1000000,1000000)],[(1000000,1000000)],[.row 1000000,vi x5,vi (IntKind.wrap .i64 ((IntKind.wrap .i64 (x5 + a2)) - o7)),vi a3,.fn 67 []],[(1000000,49,[rc7 o9])],.tup [],[(1000000,49,[rc7 r11])]⟩ [] [1000000] [] [(1000000,49,[rc7 r11])] ((hR_slices_symMergeCmpFunc_api_Container__r0__view_sorted_1 x5 (IntKind.wrap .i64 ((IntKind.wrap .i64 (x5 + a2)) - o7)) a3 o9 _ hr11)) (To.fin ?_)
    cases h
    exact To.doneB hΓ [1000000] (by kernel_rfl) (by kernel_rfl)
   ·refine Wp.skip (To.fin ?_)
    cases h
    exact To.doneB hΓ [1000000] (by kernel_rfl) (by kernel_rfl)
def slices_symMergeCmpFunc_api_Container__r0__view_sorted_1:Nat → Int → Int → Int → (List (S_api_Container)) → Option ((List (S_api_Container)))
 | 0=>fun _ _ _ _=>none
 | n + 1=>slices_symMergeCmpFunc_api_Container__r0__view_sorted_1_b (slices_symMergeCmpFunc_api_Container__r0__view_sorted_1 n) n
theorem ok_slices_symMergeCmpFunc_api_Container__r0__view_sorted_1 (n:Nat):∀ (a1:Int) (a2:Int) (a3:Int) (h0:List (S_api_Container)) (r:(List (S_api_Container))),slices_symMergeCmpFunc_api_Container__r0__view_sorted_1 n a1 a2 a3 h0 = some r → CallsB Try.prog 102 [.row 1000000,vi a1,vi a2,vi a3,.fn 67 []] [(1000000,49,[rc7 h0])] (.tup []) [(1000000,49,[rc7 r])]:=by
 induction n with
 | zero=>intro a1 a2 a3 h0 r h; cases h
 | succ n ih=>exact fun a1 a2 a3 h0 r h=>ok_slices_symMergeCmpFunc_api_Container__r0__view_sorted_1_b (slices_symMergeCmpFunc_api_Container__r0__view_sorted_1 n) ih n a1 a2 a3 h0 r h
def slices_stableCmpFunc_api_Container__r0__view_sorted_1_l1 (n:Nat) (v1:Int) (v6:Int):Nat → (List (S_api_Container)) → Int → Int → Option ((List (S_api_Container)) × Int)
 | 0,_,_,_=>none
 | k + 1,v0,v7,v8=>if (decide (v8 ≤ v1)) = true then ((slices_insertionSortCmpFunc_api_Container__r0__view_sorted_1 n v7 v8 v0).bind fun r1 =>
 slices_stableCmpFunc_api_Container__r0__view_sorted_1_l1 n v1 v6 k r1 v8 (IntKind.wrap .i64 (v8 + v6)))
 else (some (v0,v7))
theorem ok_slices_stableCmpFunc_api_Container__r0__view_sorted_1_l1 (n:Nat) (v1:Int) (v6:Int) {F0:Fz} {w0:Pt Try.prog} {Q:Exit → Act → World → Prop} (k:Nat):∀ (v0:List (S_api_Container)) (v7:Int) (v8:Int) (o:(List (S_api_Container)) × Int),slices_stableCmpFunc_api_Container__r0__view_sorted_1_l1 n v1 v6 k v0 v7 v8 = some o → To 63 F0 w0 [(0,.row 1000000),(1,vi v1),(2,.fn 67 []),(6,vi v6),(7,vi o.2)] [(1000000,49,[rc7 o.1])] (.exit 0) Q → WL Try.prog 63 F0 w0 [(0,.row 1000000),(1,vi v1),(2,.fn 67 []),(6,vi v6),(7,vi v7),(8,vi v8)] [(1000000,49,[rc7 v0])] (cI (cI (cA (cB (cB (cF Try.f87)))))) Q:=by
 induction k with
 | zero=>intro v0 v7 v8 o h; cases h
 | succ k ih =>
  intro v0 v7 v8 o h hQ
  rw [slices_stableCmpFunc_api_Container__r0__view_sorted_1_l1] at h
  refine WL.round (Wp.seq (Wp.seq (rg [0,1,2,6,7,8,13] [1000000] [(0,.row 1000000),(1,vi v1),(2,.fn 67 []),(6,vi v6),(7,vi v7),(8,vi v8),(13,vb (decide (v8 ≤ v1)))] [(1000000,49,[rc7 v0])] (To.thenN (cn h (fun h=>?_) (fun h=>?_))))))
  ·refine Wp.skip (To.thenN (Wp.block (Wp.seq ?_)))
   obtain ⟨r1,hr1,h⟩:=bind_of h
   refine rb [] 4 ⟨[(1000000,1000000)],[(1000000,1000000)],[.row 1000000,vi v7,vi v8,.fn 67 []],[(1000000,49,[rc7 v0])],.tup [],[(1000000,49,[rc7 r1])]⟩ [0,1,2,6,8] [1000000] [(0,.row 1000000),(1,vi v1),(2,.fn 67 []),(6,vi v6),(8,vi v8)] [(1000000,49,[rc7 r1])] ((ok_slices_insertionSortCmpFunc_api_Container__r0__view_sorted_1 n v7 v8 v0 _ hr1)) (To.thenN (Wp.seq (rg [0,1,2,6,7,8] [1000000] [(0,.row 1000000),(1,vi v1),(2,.fn 67 []),(6,vi v6),(7,vi v8),(8,vi v8)] [(1000000,49,[rc7 r1])] (To.thenN (rg [0,1,2,6,7,8] [1000000] [(0,.row 1000000),(1,vi v1),(2,.fn 67 []),(6,vi v6),(7,vi v8),(8,vi (IntKind.wrap .i64 (v8 + v6)))] [(1000000,49,[rc7 r1])] (To.blockN (To.again ?_)))))))
   exact ih r1 v8 (IntKind.wrap .i64 (v8 + v6)) _ h hQ
  ·refine Wp.exit (To.thenX (To.thenX (kt [0,1,2,6,7] [1000000] [(0,.row 1000000),(1,vi v1),(2,.fn 67 []),(6,vi v6),(7,vi v7)] [(1000000,49,[rc7 v0])] ?_)))
   cases h
   exact hQ
def slices_stableCmpFunc_api_Container__r0__view_sorted_1_l3 (n:Nat) (v1:Int) (v6:Int):Nat → (List (S_api_Container)) → Int → Int → Option ((List (S_api_Container)) × Int)
 | 0,_,_,_=>none
 | k + 1,v0,v7,v8=>if (decide (v8 ≤ v1)) = true then ((slices_symMergeCmpFunc_api_Container__r0__view_sorted_1 n v7 (IntKind.wrap .i64 (v7 + v6)) v8 v0).bind fun r3 =>
 slices_stableCmpFunc_api_Container__r0__view_sorted_1_l3 n v1 v6 k r3 v8 (IntKind.wrap .i64 (v8 + (IntKind.wrap .i64 (2 * v6)))))
 else (some (v0,v7))
theorem ok_slices_stableCmpFunc_api_Container__r0__view_sorted_1_l3 (n:Nat) (v1:Int) (v6:Int) {F0:Fz} {w0:Pt Try.prog} {Q:Exit → Act → World → Prop} (k:Nat):∀ (v0:List (S_api_Container)) (v7:Int) (v8:Int) (o:(List (S_api_Container)) × Int),slices_stableCmpFunc_api_Container__r0__view_sorted_1_l3 n v1 v6 k v0 v7 v8 = some o → To 63 F0 w0 [(0,.row 1000000),(1,vi v1),(2,.fn 67 []),(6,vi v6),(7,vi o.2)] [(1000000,49,[rc7 o.1])] (.exit 4) Q → WL Try.prog 63 F0 w0 [(0,.row 1000000),(1,vi v1),(2,.fn 67 []),(6,vi v6),(7,vi v7),(8,vi v8)] [(1000000,49,[rc7 v0])] (cI (cI (cA (cB (cI (cB (cI (cI (cB (cB (cB (cB (cF Try.f87))))))))))))) Q:=by
 induction k with
 | zero=>intro v0 v7 v8 o h; cases h
 | succ k ih =>
  intro v0 v7 v8 o h hQ
  rw [slices_stableCmpFunc_api_Container__r0__view_sorted_1_l3] at h
  refine WL.round (Wp.seq (Wp.seq (rg [0,1,2,6,7,8,35] [1000000] [(0,.row 1000000),(1,vi v1),(2,.fn 67 []),(6,vi v6),(7,vi v7),(8,vi v8),(35,vb (decide (v8 ≤ v1)))] [(1000000,49,[rc7 v0])] (To.thenN (cn h (fun h=>?_) (fun h=>?_))))))
  ·refine Wp.skip (To.thenN (Wp.block (Wp.seq ?_)))
   obtain ⟨r3,hr3,h⟩:=bind_of h
   refine rb [] 7 ⟨[(1000000,1000000)],[(1000000,1000000)],[.row 1000000,vi v7,vi (IntKind.wrap .i64 (v7 + v6)),vi v8,.fn 67 []],[(1000000,49,[rc7 v0])],.tup [],[(1000000,49,[rc7 r3])]⟩ [0,1,2,6,8] [1000000] [(0,.row 1000000),(1,vi v1),(2,.fn 67 []),(6,vi v6),(8,vi v8)] [(1000000,49,[rc7 r3])] ((ok_slices_symMergeCmpFunc_api_Container__r0__view_sorted_1 n v7 (IntKind.wrap .i64 (v7 + v6)) v8 v0 _ hr3)) (To.thenN (Wp.seq (rg [0,1,2,6,7,8] [1000000] [(0,.row 1000000),(1,vi v1),(2,.fn 67 []),(6,vi v6),(7,vi v8),(8,vi v8)] [(1000000,49,[rc7 r3])] (To.thenN (rg [0,1,2,6,7,8] [1000000] [(0,.row 1000000),(1,vi v1),(2,.fn 67 []),(6,vi v6),(7,vi v8),(8,vi (IntKind.wrap .i64 (v8 + (IntKind.wrap .i64 (2 * v6)))))] [(1000000,49,[rc7 r3])] (To.blockN (To.again ?_)))))))
   exact ih r3 v8 (IntKind.wrap .i64 (v8 + (IntKind.wrap .i64 (2 * v6)))) _ h hQ
  ·refine Wp.exit (To.thenX (To.thenX (kt [0,1,2,6,7] [1000000] [(0,.row 1000000),(1,vi v1),(2,.fn 67 []),(6,vi v6),(7,vi v7)] [(1000000,49,[rc7 v0])] ?_)))
   cases h
   exact hQ
def slices_stableCmpFunc_api_Container__r0__view_sorted_1_j4 (n:Nat) (v0:List (S_api_Container)) (v1:Int) (v6:Int) (v7:Int) (v9:Int) (v54:Bool):Option ((List (S_api_Container))) :=
 if v54 = true then ((slices_symMergeCmpFunc_api_Container__r0__view_sorted_1 n v7 v9 v1 v0).bind fun r4 =>
 some r4)
 else some v0
theorem ok_slices_stableCmpFunc_api_Container__r0__view_sorted_1_j4 (n:Nat) (v0:List (S_api_Container)) (v1:Int) (v6:Int) (v7:Int) (v9:Int) (v54:Bool) (o:(List (S_api_Container))) (h:slices_stableCmpFunc_api_Container__r0__view_sorted_1_j4 n v0 v1 v6 v7 v9 v54 = some o) {F0:Fz} {w0:Pt Try.prog} {Q:Exit → Act → World → Prop} (hQ:To 63 F0 w0 [(0,.row 1000000),(1,vi v1),(2,.fn 67 []),(6,vi v6)] [(1000000,49,[rc7 o])] .normal Q):Wp Try.prog 63 F0 w0 [(0,.row 1000000),(1,vi v1),(2,.fn 67 []),(6,vi v6),(7,vi v7),(9,vi v9),(54,vb v54)] [(1000000,49,[rc7 v0])] (cB (cB (cA (cB (cB (cI (cB (cI (cI (cB (cB (cB (cB (cF Try.f87)))))))))))))) Q:=by
 unfold slices_stableCmpFunc_api_Container__r0__view_sorted_1_j4 at h
 refine cn h (fun h=>?_) (fun h=>?_)
 ·obtain ⟨r4,hr4,h⟩:=bind_of h
  refine rb [] 5 ⟨[(1000000,1000000)],[(1000000,1000000)],[.row 1000000,vi v7,vi v9,vi v1,.fn 67 []],[(1000000,49,[rc7 v0])],.tup [],[(1000000,49,[rc7 r4])]⟩ [0,1,2,6] [1000000] [(0,.row 1000000),(1,vi v1),(2,.fn 67 []),(6,vi v6)] [(1000000,49,[rc7 r4])] ((ok_slices_symMergeCmpFunc_api_Container__r0__view_sorted_1 n v7 v9 v1 v0 _ hr4)) (kt [0,1,2,6] [1000000] [(0,.row 1000000),(1,vi v1),(2,.fn 67 []),(6,vi v6)] [(1000000,49,[rc7 r4])] ?_)
  cases h
  exact hQ
 ·refine Wp.skip (kt [0,1,2,6] [1000000] [(0,.row 1000000),(1,vi v1),(2,.fn 67 []),(6,vi v6)] [(1000000,49,[rc7 v0])] ?_)
  cases h
  exact hQ
def slices_stableCmpFunc_api_Container__r0__view_sorted_1_l2 (n:Nat) (v1:Int):Nat → (List (S_api_Container)) → Int → Option ((List (S_api_Container)))
 | 0,_,_=>none
 | k + 1,v0,v6=>if (decide (v6 < v1)) = true then ((slices_stableCmpFunc_api_Container__r0__view_sorted_1_l3 n v1 v6 n v0 0 (IntKind.wrap .i64 (2 * v6))).bind fun o3 =>
 (slices_stableCmpFunc_api_Container__r0__view_sorted_1_j4 n o3.1 v1 v6 o3.2 (IntKind.wrap .i64 (o3.2 + v6)) (decide ((IntKind.wrap .i64 (o3.2 + v6)) < v1))).bind fun o4 =>
 slices_stableCmpFunc_api_Container__r0__view_sorted_1_l2 n v1 k o4 (IntKind.wrap .i64 (v6 * 2)))
 else some v0
theorem ok_slices_stableCmpFunc_api_Container__r0__view_sorted_1_l2 (n:Nat) (v1:Int) {F0:Fz} {w0:Pt Try.prog} {Q:Exit → Act → World → Prop} (k:Nat):∀ (v0:List (S_api_Container)) (v6:Int) (o:(List (S_api_Container))),slices_stableCmpFunc_api_Container__r0__view_sorted_1_l2 n v1 k v0 v6 = some o → To 63 F0 w0 [] [(1000000,49,[rc7 o])] (.exit 2) Q → WL Try.prog 63 F0 w0 [(0,.row 1000000),(1,vi v1),(2,.fn 67 []),(6,vi v6)] [(1000000,49,[rc7 v0])] (cI (cI (cB (cB (cB (cB (cF Try.f87))))))) Q:=by
 induction k with
 | zero=>intro v0 v6 o h; cases h
 | succ k ih =>
  intro v0 v6 o h hQ
  rw [slices_stableCmpFunc_api_Container__r0__view_sorted_1_l2] at h
  refine WL.round (Wp.seq (Wp.seq (rg [0,1,2,6,30] [1000000] [(0,.row 1000000),(1,vi v1),(2,.fn 67 []),(6,vi v6),(30,vb (decide (v6 < v1)))] [(1000000,49,[rc7 v0])] (To.thenN (cn h (fun h=>?_) (fun h=>?_))))))
  ·refine Wp.skip (To.thenN (Wp.block (Wp.seq (rg [0,1,2,6,7,8] [1000000] [(0,.row 1000000),(1,vi v1),(2,.fn 67 []),(6,vi v6),(7,vi 0),(8,vi (IntKind.wrap .i64 (2 * v6)))] [(1000000,49,[rc7 v0])] (To.thenN (Wp.seq (Wp.block ?_)))))))
   obtain ⟨o3,ho3,h⟩:=bind_of h
   refine kw [0,1,2,6,7,8] [1000000] [(0,.row 1000000),(1,vi v1),(2,.fn 67 []),(6,vi v6),(7,vi 0),(8,vi (IntKind.wrap .i64 (2 * v6)))] [(1000000,49,[rc7 v0])] (Wp.loopL (ok_slices_stableCmpFunc_api_Container__r0__view_sorted_1_l3 n v1 v6 n v0 0 (IntKind.wrap .i64 (2 * v6)) o3 ho3 (To.blockX (To.thenN (Wp.seq (Wp.seq (rg [0,1,2,6,7,9] [1000000] [(0,.row 1000000),(1,vi v1),(2,.fn 67 []),(6,vi v6),(7,vi o3.2),(9,vi (IntKind.wrap .i64 (o3.2 + v6)))] [(1000000,49,[rc7 o3.1])] (To.thenN (Wp.seq (rg [0,1,2,6,7,9,54] [1000000] [(0,.row 1000000),(1,vi v1),(2,.fn 67 []),(6,vi v6),(7,vi o3.2),(9,vi (IntKind.wrap .i64 (o3.2 + v6))),(54,vb (decide ((IntKind.wrap .i64 (o3.2 + v6)) < v1)))] [(1000000,49,[rc7 o3.1])] ?_))))))))))
   refine To.thenN ?_
   obtain ⟨o4,ho4,h⟩:=bind_of h
   refine kw [0,1,2,6,7,9,54] [1000000] [(0,.row 1000000),(1,vi v1),(2,.fn 67 []),(6,vi v6),(7,vi o3.2),(9,vi (IntKind.wrap .i64 (o3.2 + v6))),(54,vb (decide ((IntKind.wrap .i64 (o3.2 + v6)) < v1)))] [(1000000,49,[rc7 o3.1])] (ok_slices_stableCmpFunc_api_Container__r0__view_sorted_1_j4 n o3.1 v1 v6 o3.2 (IntKind.wrap .i64 (o3.2 + v6)) (decide ((IntKind.wrap .i64 (o3.2 + v6)) < v1)) o4 ho4 (To.thenN (rg [0,1,2,6] [1000000] [(0,.row 1000000),(1,vi v1),(2,.fn 67 []),(6,vi (IntKind.wrap .i64 (v6 * 2)))] [(1000000,49,[rc7 o4])] (To.blockN (To.again ?_)))))
   exact ih o4 (IntKind.wrap .i64 (v6 * 2)) _ h hQ
  ·refine Wp.exit (To.thenX (To.thenX (kt [] [1000000] [] [(1000000,49,[rc7 v0])] ?_)))
   cases h
   exact hQ
def slices_stableCmpFunc_api_Container__r0__view_sorted_1 (n:Nat) (a1:Int) (h0:List (S_api_Container)):Option ((List (S_api_Container))) :=
 (slices_stableCmpFunc_api_Container__r0__view_sorted_1_l1 n a1 20 n h0 0 20).bind fun o1 =>
 (slices_insertionSortCmpFunc_api_Container__r0__view_sorted_1 n o1.2 a1 o1.1).bind fun r2 =>
 (slices_stableCmpFunc_api_Container__r0__view_sorted_1_l2 n a1 n r2 20).bind fun o3 =>
 some o3
theorem ok_slices_stableCmpFunc_api_Container__r0__view_sorted_1 (n:Nat) (a1:Int) (h0:List (S_api_Container)) (r:(List (S_api_Container))) (h:slices_stableCmpFunc_api_Container__r0__view_sorted_1 n a1 h0 = some r):CallsB Try.prog 87 [.row 1000000,vi a1,.fn 67 []] [(1000000,49,[rc7 h0])] (.tup []) [(1000000,49,[rc7 r])]:=by
 unfold slices_stableCmpFunc_api_Container__r0__view_sorted_1 at h
 refine bo Try.f87 rfl fun F0 w0=>?_
 refine Wp.seq (rg [0,1,2,6] [1000000] [(0,.row 1000000),(1,vi a1),(2,.fn 67 []),(6,vi 20)] [(1000000,49,[rc7 h0])] (To.thenN (Wp.seq (rg [0,1,2,6,7,8] [1000000] [(0,.row 1000000),(1,vi a1),(2,.fn 67 []),(6,vi 20),(7,vi 0),(8,vi 20)] [(1000000,49,[rc7 h0])] (To.thenN (Wp.seq (Wp.block ?_)))))))
 obtain ⟨o1,ho1,h⟩:=bind_of h
 refine kw [0,1,2,6,7,8] [1000000] [(0,.row 1000000),(1,vi a1),(2,.fn 67 []),(6,vi 20),(7,vi 0),(8,vi 20)] [(1000000,49,[rc7 h0])] (Wp.loopL (ok_slices_stableCmpFunc_api_Container__r0__view_sorted_1_l1 n a1 20 n h0 0 20 o1 ho1 (To.blockX (To.thenN (Wp.seq ?_)))))
 obtain ⟨r2,hr2,h⟩:=bind_of h
 refine rb [] 4 ⟨[(1000000,1000000)],[(1000000,1000000)],[.row 1000000,vi o1.2,vi a1,.fn 67 []],[(1000000,49,[rc7 o1.1])],.tup [],[(1000000,49,[rc7 r2])]⟩ [0,1,2,6] [1000000] [(0,.row 1000000),(1,vi a1),(2,.fn 67 []),(6,vi 20)] [(1000000,49,[rc7 r2])] ((ok_slices_insertionSortCmpFunc_api_Container__r0__view_sorted_1 n o1.2 a1 o1.1 _ hr2)) (To.thenN (Wp.block ?_))
 obtain ⟨o3,ho3,h⟩:=bind_of h
 refine kw [0,1,2,6] [1000000] [(0,.row 1000000),(1,vi a1),(2,.fn 67 []),(6,vi 20)] [(1000000,49,[rc7 r2])] (Wp.loopL (ok_slices_stableCmpFunc_api_Container__r0__view_sorted_1_l2 n a1 n r2 20 o3 ho3 (To.blockX (To.fin ?_))))
 cases h
 exact To.doneB hΓ [1000000] (by kernel_rfl) (by kernel_rfl)
def slices_SortStableFunc_api_Container_api_Container__r0__view_sorted_1 (n:Nat) (h0:List (S_api_Container)):Option ((List (S_api_Container))) :=
 (slices_stableCmpFunc_api_Container__r0__view_sorted_1 n (List.length h0:Int) h0).bind fun r1 =>
 some r1
theorem ok_slices_SortStableFunc_api_Container_api_Container__r0__view_sorted_1 (n:Nat) (h0:List (S_api_Container)) (r:(List (S_api_Container))) (h:slices_SortStableFunc_api_Container_api_Container__r0__view_sorted_1 n h0 = some r):CallsB Try.prog 66 [.row 1000000,.fn 67 []] [(1000000,49,[rc7 h0])] (.tup []) [(1000000,49,[rc7 r])]:=by
 unfold slices_SortStableFunc_api_Container_api_Container__r0__view_sorted_1 at h
 refine bo Try.f66 rfl fun F0 w0=>?_
 obtain ⟨r1,hr1,h⟩:=bind_of h
 refine rb [] 4 ⟨[(1000000,1000000)],[(1000000,1000000)],[.row 1000000,vi (List.length h0:Int),.fn 67 []],[(1000000,49,[rc7 h0])],.tup [],[(1000000,49,[rc7 r1])]⟩ [] [1000000] [] [(1000000,49,[rc7 r1])] ((ok_slices_stableCmpFunc_api_Container__r0__view_sorted_1 n (List.length h0:Int) h0 _ hr1)) (To.fin ?_)
 cases h
 exact To.doneB hΓ [1000000] (by kernel_rfl) (by kernel_rfl)
def view_sorted_o__r0 (n:Nat) (h0:List (S_api_Container)):Option ((List (S_api_Container))) :=
 (slices_SortStableFunc_api_Container_api_Container__r0__view_sorted_1 n h0).bind fun r1 =>
 some r1
theorem ok_view_sorted_o__r0 (n:Nat) (h0:List (S_api_Container)) (r:(List (S_api_Container))) (h:view_sorted_o__r0 n h0 = some r):CallsB Try.prog 43 [.row 1000000] [(1000000,49,[rc7 h0])] (.row 1000000) [(1000000,49,[rc7 r])]:=by
 unfold view_sorted_o__r0 at h
 refine bo Try.f43 rfl fun F0 w0=>?_
 refine Wp.seq (rg [0] [1000000] [(0,.row 1000000)] [(1000000,49,[rc7 h0])] (To.thenN (Wp.seq ?_)))
 obtain ⟨r1,hr1,h⟩:=bind_of h
 refine rb [] 1 ⟨[(1000000,1000000)],[(1000000,1000000)],[.row 1000000,.fn 67 []],[(1000000,49,[rc7 h0])],.tup [],[(1000000,49,[rc7 r1])]⟩ [0] [1000000] [(0,.row 1000000)] [(1000000,49,[rc7 r1])] ((ok_slices_SortStableFunc_api_Container_api_Container__r0__view_sorted_1 n h0 _ hr1)) (To.thenN (Wp.seq (rg [2] [1000000] [(2,.row 1000000)] [(1000000,49,[rc7 r1])] (To.thenN (Wp.ret ?_)))))
 cases h
 exact To.doneB hΓ [1000000] (by kernel_rfl) (by kernel_rfl)
def view_Mine (n:Nat) (a0:S_ref36_Seen) (a1:List UInt8):Option ((List (S_api_Container))) :=
 (view_those_api_Container_o__view_Mine_1_e n a0.f_Boxes a1).bind fun r1 =>
 (view_sorted_o__r0 n r1).bind fun r2 =>
 some r2
abbrev rc9 (l:List (S_api_Container)):D:=.rowc true (α:=S_api_Container) Z_api_Container E_api_Container l
theorem ok_view_Mine (n:Nat) (a0:S_ref36_Seen) (a1:List UInt8) (r:(List (S_api_Container))) (h:view_Mine n a0 a1 = some r):CallsX Try.prog 11 [.agg (qc4 a0),.str a1] (rs2 r):=by
 unfold view_Mine at h
 refine xo Try.f11 rfl fun F0 w0 _=>?_
 refine Wp.seq (rg [2,3] [2,3] [(2,.own 2 0),(3,.own 3 0)] [(2,32,qc4 a0),(3,9,[.str a1])] (To.thenN (Wp.seq ?_)))
 obtain ⟨r1,hr1,h⟩:=bind_of h
 obtain ⟨r2,hr2,h⟩:=bind_of h
 refine rr [(2,[3])] [] [(3,⟨[],[(1,8)],[rs2 a0.f_Boxes,.fn 44 [.el [.str a1]]],[],.row 1,[(1,49,[rc7 r1])]⟩),(4,⟨[(1000000,8)],[(1000000,8)],[.row 1000000],[(1000000,49,[rc7 r1])],.row 1000000,[(1000000,49,[rc7 r2])]⟩)] [4] [8] [(4,.row 8)] [(8,49,[rc7 r2])] [CbOb (CallsB Try.prog) 40 [rs2 a0.f_Boxes,.fn 44 [.el [.str a1]]] [] ⟨[],[(1,8)],[rs2 a0.f_Boxes,.fn 44 [.el [.str a1]]],[],.row 1,[(1,49,[rc7 r1])]⟩,CbOb (CallsB Try.prog) 43 [.row 8] [some (49,[rc7 r1])] ⟨[(1000000,8)],[(1000000,8)],[.row 1000000],[(1000000,49,[rc7 r1])],.row 1000000,[(1000000,49,[rc7 r2])]⟩] (AllP.cons (⟨(ok_view_those_api_Container_o__view_Mine_1_e n a0.f_Boxes a1 _ hr1),by kernel_rfl,by kernel_rfl⟩) (AllP.cons (⟨(ok_view_sorted_o__r0 n r1 _ hr2),by kernel_rfl,by kernel_rfl⟩) AllP.nil)) ?_
 refine To.thenN (Wp.ret (To.pre (St.settle (ks:=[8]) (kk:=[4]) (kl:=[8]) (K':=[(4,.row 8)]) (L':=[(8,49,[rc9 r2])]) (by kernel_rfl)) (To.pre (St.sealK [4] (K':=[(4,rs2 r2)]) (by kernel_rfl)) ?_)))
 cases h
 exact To.done hΓ (by kernel_rfl)
def view_Service_1__e (a0:S_api_Container) (c0:List UInt8):Bool :=
 (a0.f_Spec.f_Service == c0)
theorem ok_view_Service_1__e (a0:S_api_Container) (c0:List UInt8) (r:Bool) (h:view_Service_1__e a0 c0 = r):CallsX Try.prog 42 [.agg (qc5 a0),.el [.str c0]] (vb r):=by
 unfold view_Service_1__e at h
 refine xo Try.f42 rfl fun F0 w0 _=>?_
 refine Wp.seq (rg [1,2] [2] [(1,.el [.str c0]),(2,.own 2 0)] [(2,49,(E_api_Container a0))] (To.thenN (Wp.seq (rg [3] [] [(3,vb (a0.f_Spec.f_Service == c0))] [] (To.thenN (Wp.ret ?_))))))
 cases h
 exact To.done hΓ (by kernel_rfl)
def view_those_api_Container__view_Service_1_e_j2 (n:Nat) (v1_0:List UInt8) (v5:List (S_api_Container)) (v8:List (S_api_Container)) (v9:Int) (v10:Int):Option ((List (S_api_Container))) :=
 if (decide (0 ≤ v10 ∧ v10 < (List.length v8:Int))) = true then (lett (view_Service_1__e ((v8)[Int.toNat v10]?.getD Z_api_Container) v1_0) fun r1 =>
 if r1 = true then (if (decide ((List.length v5 + List.length ([((v8)[Int.toNat v10]?.getD Z_api_Container)]:List (S_api_Container))) * (216 + 1) ≤ limit)) = true then (some (v5 ++ ([((v8)[Int.toNat v10]?.getD Z_api_Container)]:List (S_api_Container)))) else none)
 else some v5) else none
theorem ok_view_those_api_Container__view_Service_1_e_j2 (n:Nat) (v1_0:List UInt8) (v5:List (S_api_Container)) (v8:List (S_api_Container)) (v9:Int) (v10:Int) (o:(List (S_api_Container))) (h:view_those_api_Container__view_Service_1_e_j2 n v1_0 v5 v8 v9 v10 = some o) {F0:Fz} {w0:Pt Try.prog} {Q:Exit → Act → World → Prop} (hQ:To 23 F0 w0 [(1,.fn 42 [.el [.str v1_0]]),(5,.row 1005),(8,rs2 v8),(9,vi v9),(10,vi v10)] [(1005,49,[rc7 o])] .normal Q):Wp Try.prog 23 F0 w0 [(1,.fn 42 [.el [.str v1_0]]),(5,.row 1005),(8,rs2 v8),(9,vi v9),(10,vi v10)] [(1005,49,[rc7 v5])] (cA (cB (cB (cI (cI (cB (cA (cB (cB (cF Try.f40)))))))))) Q:=by
 unfold view_those_api_Container__view_Service_1_e_j2 at h
 refine Wp.block (Wp.seq ?_)
 obtain ⟨hc3,h⟩:=chk_of h
 refine r0 [1,5,7,8,9,10] [7,1005] [(1,.fn 42 [.el [.str v1_0]]),(5,.row 1005),(7,.own 7 0),(8,rs2 v8),(9,vi v9),(10,vi v10)] [(ex28 v8 v10),(1005,49,[rc7 v5])] (AllP.cons hc3 AllP.nil) (To.thenN (Wp.seq ?_))
 obtain ⟨r1,hr1,h⟩:=lett_of h
 refine rc [] 2 [1,5,7,8,9,10,16] [7,1005] [(1,.fn 42 [.el [.str v1_0]]),(5,.row 1005),(7,.own 7 0),(8,rs2 v8),(9,vi v9),(10,vi v10),(16,vb r1)] [(ex28 v8 v10),(1005,49,[rc7 v5])] (ok_view_Service_1__e (ex5 v8 v10) v1_0 _ hr1) (To.thenN (cn h (fun h=>?_) (fun h=>?_)))
 ·obtain ⟨hc2,h⟩:=chk_of h
  refine rr [] [(2,rs2 ([(ex5 v8 v10)])),(3,rs2 (v5 ++ (ex20 v8 v10)))] [] [1,5,8,9,10] [20] [(1,.fn 42 [.el [.str v1_0]]),(5,.row 20),(8,rs2 v8),(9,vi v9),(10,vi v10)] [(20,49,[rc7 (v5 ++ (ex20 v8 v10))])] [(MkOb 18 [vi ((ex5 v8 v10).f_Id),.str ((ex5 v8 v10).f_Spec.f_Name),.str (ex26 v8 v10),.str (ex25 v8 v10),vi ((ex5 v8 v10).f_Spec.f_Number),.str ((ex5 v8 v10).f_Spec.f_Hash),ls ((ex5 v8 v10).f_Spec.f_Nets),ls ((ex5 v8 v10).f_Spec.f_Vols),.str (ex24 v8 v10),vi (ex22 v8 v10),vi (ex23 v8 v10),vi (ex21 v8 v10),vi (ex27 v8 v10),vi ((ex5 v8 v10).f_Spec.f_Tries),vi ((ex5 v8 v10).f_State),vi ((ex5 v8 v10).f_Code),vi ((ex5 v8 v10).f_Health),vi ((ex5 v8 v10).f_Runs)] 1 (rs2 ([(ex5 v8 v10)])) ∧ GoodR (rs2 ([(ex5 v8 v10)]))),_,(ex32 v5 v8 v10)] (AllP.cons (mkOb (by kernel_rfl) rfl (by kernel_rfl) (good_E_api_Container _)) (AllP.cons hc2 (AllP.cons (appOb rfl rfl (good_E_api_Container _)) AllP.nil))) (To.blockN (nt [1,5,8,9,10] [20] [(20,1005)] [1,5,8,9,10] [1005] [(1,.fn 42 [.el [.str v1_0]]),(5,.row 1005),(8,rs2 v8),(9,vi v9),(10,vi v10)] [(1005,49,[rc7 (v5 ++ (ex20 v8 v10))])] ?_))
  cases h
  exact hQ
 ·refine Wp.skip (To.blockN (kt [1,5,8,9,10] [1005] [(1,.fn 42 [.el [.str v1_0]]),(5,.row 1005),(8,rs2 v8),(9,vi v9),(10,vi v10)] [(1005,49,[rc7 v5])] ?_))
  cases h
  exact hQ
def view_those_api_Container__view_Service_1_e_l1 (n:Nat) (v1_0:List UInt8) (v8:List (S_api_Container)) (v9:Int):Nat → (List (S_api_Container)) → Int → Option ((List (S_api_Container)))
 | 0,_,_=>none
 | k + 1,v5,v10=>if (decide (v10 < v9)) = true then ((view_those_api_Container__view_Service_1_e_j2 n v1_0 v5 v8 v9 v10).bind fun o1 =>
 view_those_api_Container__view_Service_1_e_l1 n v1_0 v8 v9 k o1 (IntKind.wrap .i64 (v10 + 1)))
 else some v5
theorem ok_view_those_api_Container__view_Service_1_e_l1 (n:Nat) (v1_0:List UInt8) (v8:List (S_api_Container)) (v9:Int) {F0:Fz} {w0:Pt Try.prog} {Q:Exit → Act → World → Prop} (k:Nat):∀ (v5:List (S_api_Container)) (v10:Int) (o:(List (S_api_Container))),view_those_api_Container__view_Service_1_e_l1 n v1_0 v8 v9 k v5 v10 = some o → To 23 F0 w0 [(5,.row 1005)] [(1005,49,[rc7 o])] (.exit 0) Q → WL Try.prog 23 F0 w0 [(1,.fn 42 [.el [.str v1_0]]),(5,.row 1005),(8,rs2 v8),(9,vi v9),(10,vi v10)] [(1005,49,[rc7 v5])] (cI (cI (cB (cA (cB (cB (cF Try.f40))))))) Q:=by
 induction k with
 | zero=>intro v5 v10 o h; cases h
 | succ k ih =>
  intro v5 v10 o h hQ
  rw [view_those_api_Container__view_Service_1_e_l1] at h
  refine WL.round (Wp.seq (rg [1,5,8,9,10,11] [1005] [(1,.fn 42 [.el [.str v1_0]]),(5,.row 1005),(8,rs2 v8),(9,vi v9),(10,vi v10),(11,vb (decide (v10 < v9)))] [(1005,49,[rc7 v5])] (To.thenN (Wp.seq (cn h (fun h=>?_) (fun h=>?_))))))
  ·refine Wp.skip (To.thenN (Wp.seq ?_))
   obtain ⟨o1,ho1,h⟩:=bind_of h
   refine kw [1,5,8,9,10] [1005] [(1,.fn 42 [.el [.str v1_0]]),(5,.row 1005),(8,rs2 v8),(9,vi v9),(10,vi v10)] [(1005,49,[rc7 v5])] (ok_view_those_api_Container__view_Service_1_e_j2 n v1_0 v5 v8 v9 v10 o1 ho1 (To.thenN (rg [1,5,8,9,10] [1005] [(1,.fn 42 [.el [.str v1_0]]),(5,.row 1005),(8,rs2 v8),(9,vi v9),(ex7 v10)] [(1005,49,[rc7 o1])] (kt [1,5,8,9,10] [1005] [(1,.fn 42 [.el [.str v1_0]]),(5,.row 1005),(8,rs2 v8),(9,vi v9),(ex7 v10)] [(1005,49,[rc7 o1])] (To.again ?_)))))
   exact ih o1 (IntKind.wrap .i64 (v10 + 1)) _ h hQ
  ·refine Wp.exit (To.thenX (To.thenX (kt [5] [1005] [(5,.row 1005)] [(1005,49,[rc7 v5])] ?_)))
   cases h
   exact hQ
def view_those_api_Container__view_Service_1_e (n:Nat) (a0:List (S_api_Container)) (c0:List UInt8):Option ((List (S_api_Container))) :=
 (view_those_api_Container__view_Service_1_e_l1 n c0 a0 (List.length a0:Int) n ([]:List (S_api_Container)) 0).bind fun o1 =>
 some o1
theorem ok_view_those_api_Container__view_Service_1_e (n:Nat) (a0:List (S_api_Container)) (c0:List UInt8) (r:(List (S_api_Container))) (h:view_those_api_Container__view_Service_1_e n a0 c0 = some r):CallsX Try.prog 40 [rs2 a0,.fn 42 [.el [.str c0]]] (rs2 r):=by
 unfold view_those_api_Container__view_Service_1_e at h
 refine xo Try.f40 rfl fun F0 w0 _=>?_
 refine Wp.seq (rg [0,1] [] [(0,rs2 a0),(1,.fn 42 [.el [.str c0]])] [] (To.thenN (Wp.seq (rg [0,1,5] [] [(0,rs2 a0),(1,.fn 42 [.el [.str c0]]),(5,.val (.slice none 0 0))] [] (To.thenN (Wp.seq (Wp.seq (rg [1,5,8,9,10] [] [(1,.fn 42 [.el [.str c0]]),(5,.val (.slice none 0 0)),(8,rs2 a0),(ex8 a0),(10,vi 0)] [] (To.thenN (Wp.block ?_))))))))))
 obtain ⟨o1,ho1,h⟩:=bind_of h
 refine kw [1,5,8,9,10] [] [(1,.fn 42 [.el [.str c0]]),(5,.val (.slice none 0 0)),(8,rs2 a0),(ex8 a0),(10,vi 0)] [] (Wp.pre (St.vacant (t:=5) (k:=1005) (e:=49) (K':=[(1,.fn 42 [.el [.str c0]]),(5,.row 1005),(8,rs2 a0),(ex8 a0),(10,vi 0)]) (good_E_api_Container _) (by decide) (by kernel_rfl) (by kernel_rfl)) (kw [1,5,8,9,10] [1005] [(1,.fn 42 [.el [.str c0]]),(5,.row 1005),(8,rs2 a0),(ex8 a0),(10,vi 0)] [(1005,49,[rc7 []])] (Wp.loopL (ok_view_those_api_Container__view_Service_1_e_l1 n c0 a0 (List.length a0:Int) n ([]:List (S_api_Container)) 0 o1 ho1 (To.blockX (To.thenN (Wp.seq (rg [4] [1005] [(4,.row 1005)] [(1005,49,[rc7 o1])] (To.thenN (Wp.ret ?_))))))))))
 refine To.pre (St.settle (ks:=[1005]) (kk:=[4]) (kl:=[1005]) (K':=[(4,.row 1005)]) (L':=[(1005,49,[rc9 o1])]) (by kernel_rfl)) (To.pre (St.sealK [4] (K':=[(4,rs2 o1)]) (by kernel_rfl)) ?_)
 cases h
 exact To.done hΓ (by kernel_rfl)
def view_Service (n:Nat) (a0:S_ref36_Seen) (a1:List UInt8) (a2:List UInt8):Option ((List (S_api_Container))) :=
 (view_Mine n a0 a1).bind fun r1 =>
 (view_those_api_Container__view_Service_1_e n r1 a2).bind fun r2 =>
 some r2
theorem ok_view_Service (n:Nat) (a0:S_ref36_Seen) (a1:List UInt8) (a2:List UInt8) (r:(List (S_api_Container))) (h:view_Service n a0 a1 a2 = some r):CallsX Try.prog 10 [.agg (qc4 a0),.str a1,.str a2] (rs2 r):=by
 unfold view_Service at h
 refine xo Try.f10 rfl fun F0 w0 _=>?_
 refine Wp.seq (rg [1,3,5] [3,5] [(1,.str a1),(3,.own 3 0),(5,.own 5 0)] [(3,32,qc4 a0),(5,9,[.str a2])] (To.thenN (Wp.seq ?_)))
 obtain ⟨r1,hr1,h⟩:=bind_of h
 obtain ⟨r2,hr2,h⟩:=bind_of h
 refine rr [(3,[5])] [(2,rs2 r1),(4,rs2 r2)] [] [6] [] [(6,rs2 r2)] [] [_,_] (AllP.cons (c1 (ok_view_Mine n a0 a1 _ hr1)) (AllP.cons (c1 (ok_view_those_api_Container__view_Service_1_e n r1 a2 _ hr2)) AllP.nil)) (To.thenN (Wp.ret ?_))
 cases h
 exact To.done hΓ (by kernel_rfl)
def load_Service_l1 (n:Nat) (v1:List UInt8) (v9:List (S_api_Service)) (v10:Int):Nat → Int → S_api_Service → Option (Sum (S_api_Service) (Bool × S_api_Service))
 | 0,_,_=>none
 | k + 1,v11,b4=>if (decide (v11 < v10)) = true then (if (decide (0 ≤ v11 ∧ v11 < (List.length v9:Int))) = true then (if ((((v9)[Int.toNat v11]?.getD Z_api_Service).f_Name) == v1) = true then (some (.inr (true,((v9)[Int.toNat v11]?.getD Z_api_Service))))
 else (load_Service_l1 n v1 v9 v10 k (IntKind.wrap .i64 (v11 + 1)) b4)) else none)
 else (some (.inl b4))
abbrev zx10:S_api_Var:=S_api_Var.mk [] []
abbrev zx11:S_api_Port:=S_api_Port.mk [] 0 0 []
abbrev zx12:S_api_Mount:=S_api_Mount.mk [] [] false
abbrev zx13:S_api_Dep:=S_api_Dep.mk [] 0 false false
abbrev rs14 (l:List (S_api_Var)):D:=.recs (α:=S_api_Var) zx10 E_api_Var l
abbrev rs15 (l:List (S_api_Port)):D:=.recs (α:=S_api_Port) zx11 E_api_Port l
abbrev rs16 (l:List (S_api_Mount)):D:=.recs (α:=S_api_Mount) zx12 E_api_Mount l
abbrev rs17 (l:List (S_api_Dep)):D:=.recs (α:=S_api_Dep) zx13 E_api_Dep l
abbrev rs18 (l:List (S_api_Service)):D:=.recs (α:=S_api_Service) Z_api_Service E_api_Service l
abbrev qc19 (x:S_api_Service):List D:=[.str x.f_Name,.str x.f_Image,ls x.f_Command,rs14 x.f_Env,rs14 x.f_Labels,rs15 x.f_Ports,rs16 x.f_Mounts,ls x.f_Nets,rs17 x.f_Deps,vi x.f_Replicas,.str x.f_Health.f_Test,vi x.f_Health.f_Every,vi x.f_Health.f_Start,vi x.f_Health.f_Retries,vi x.f_Restart,vi x.f_Tries,vi x.f_Cpus,vi x.f_Mem]
theorem ok_load_Service_l1 (n:Nat) (v1:List UInt8) (v9:List (S_api_Service)) (v10:Int) {F0:Fz} {w0:Pt Try.prog} {Q:Exit → Act → World → Prop} (k:Nat):∀ (v11:Int) (b4:S_api_Service) (o:Sum (S_api_Service) (Bool × S_api_Service)),load_Service_l1 n v1 v9 v10 k v11 b4 = some o → (Sum.elim (fun s=>To 22 F0 w0 [(4,.own 4 0)] [(4,41,qc19 s)] (.exit 0) Q) (fun s=>To 22 F0 w0 [(4,.own 4 0),(5,vb s.1)] [(4,41,qc19 s.2)] .ret Q)) o → WL Try.prog 22 F0 w0 [(1,.str v1),(4,.own 4 0),(9,rs18 v9),(10,vi v10),(11,vi v11)] [(4,41,(E_api_Service b4))] (cI (cI (cB (cA (cB (cF Try.f12)))))) Q:=by
 induction k with
 | zero=>intro v11 b4 o h; cases h
 | succ k ih =>
  intro v11 b4 o h hQ
  rw [load_Service_l1] at h
  refine WL.round (Wp.seq (rg [1,4,9,10,11,12] [4] [(1,.str v1),(4,.own 4 0),(9,rs18 v9),(10,vi v10),(11,vi v11),(12,vb (decide (v11 < v10)))] [(4,41,(E_api_Service b4))] (To.thenN (Wp.seq (cn h (fun h=>?_) (fun h=>?_))))))
  ·refine Wp.skip (To.thenN (Wp.seq (Wp.block (Wp.seq ?_))))
   obtain ⟨hc1,h⟩:=chk_of h
   refine r0 [1,4,7,9,10,11] [4,7] [(1,.str v1),(4,.own 4 0),(7,.own 7 0),(9,rs18 v9),(10,vi v10),(11,vi v11)] [(4,41,(E_api_Service b4)),(7,41,(E_api_Service ((v9)[Int.toNat v11]?.getD Z_api_Service)))] (AllP.cons hc1 AllP.nil) (To.thenN (Wp.seq (rg [1,4,7,9,10,11,18] [4,7] [(1,.str v1),(4,.own 4 0),(7,.own 7 0),(9,rs18 v9),(10,vi v10),(11,vi v11),(18,vb ((((v9)[Int.toNat v11]?.getD Z_api_Service).f_Name) == v1))] [(4,41,(E_api_Service b4)),(7,41,(E_api_Service ((v9)[Int.toNat v11]?.getD Z_api_Service)))] (To.thenN (cn h (fun h=>?_) (fun h=>?_))))))
   ·refine Wp.seq (rg [4,5] [4] [(4,.own 4 0),(5,vb true)] [(4,41,(E_api_Service ((v9)[Int.toNat v11]?.getD Z_api_Service)))] (To.thenN (Wp.ret (To.blockR (To.thenR (To.thenR ?_))))))
    cases h
    exact hQ
   ·refine Wp.skip (To.blockN (To.thenN (rg [1,4,9,10,11] [4] [(1,.str v1),(4,.own 4 0),(9,rs18 v9),(10,vi v10),(11,vi (IntKind.wrap .i64 (v11 + 1)))] [(4,41,(E_api_Service b4))] (kt [1,4,9,10,11] [4] [(1,.str v1),(4,.own 4 0),(9,rs18 v9),(10,vi v10),(11,vi (IntKind.wrap .i64 (v11 + 1)))] [(4,41,(E_api_Service b4))] (To.again ?_)))))
    exact ih (IntKind.wrap .i64 (v11 + 1)) b4 _ h hQ
  ·refine Wp.exit (To.thenX (To.thenX (kt [4] [4] [(4,.own 4 0)] [(4,41,(E_api_Service b4))] ?_)))
   cases h
   exact hQ
def load_Service (n:Nat) (a0:S_api_Project) (a1:List UInt8):Option (S_api_Service × Bool) :=
 (load_Service_l1 n a1 a0.f_Services (List.length a0.f_Services:Int) n 0 (S_api_Service.mk [] [] [] [] [] [] [] [] [] 0 (S_api_Check.mk [] 0 0 0) 0 0 0 0)).bind fun o1 =>
 (Sum.elim (fun o1=>some ((S_api_Service.mk [] [] [] [] [] [] [] [] [] 0 (S_api_Check.mk [] 0 0 0) 0 0 0 0),false)) (fun o1=>some (o1.2,o1.1))) o1
abbrev zx20:S_api_Check:=S_api_Check.mk [] 0 0 0
abbrev qc21 (x:S_api_Project):List D:=[.str x.f_Name,rs18 x.f_Services,ls x.f_Nets,ls x.f_Vols]
abbrev ex19 (x0:S_api_Project):=(List.length x0.f_Services:Int)
theorem ok_load_Service (n:Nat) (a0:S_api_Project) (a1:List UInt8) (r:S_api_Service × Bool) (h:load_Service n a0 a1 = some r):CallsX Try.prog 12 [.agg (qc21 a0),.str a1] (.tup [.agg (qc19 r.1),vb r.2]):=by
 unfold load_Service at h
 refine xo Try.f12 rfl fun F0 w0 _=>?_
 refine Wp.seq (rg [1,2,4] [2,4] [(1,.str a1),(2,.own 2 0),(4,.own 4 0)] [(2,29,qc21 a0),(4,41,[.str [],.str [],.val (.slice none 0 0),.val (.slice none 0 0),.val (.slice none 0 0),.val (.slice none 0 0),.val (.slice none 0 0),.val (.slice none 0 0),.val (.slice none 0 0),vi 0,.str [],vi 0,vi 0,vi 0,vi 0,vi 0,vi 0,vi 0])] (To.thenN (Wp.seq (Wp.seq (rg [1,4,9,10,11] [4] [(1,.str a1),(4,.own 4 0),(9,rs18 a0.f_Services),(10,vi (ex19 a0)),(11,vi 0)] [(4,41,[.str [],.str [],.val (.slice none 0 0),.val (.slice none 0 0),.val (.slice none 0 0),.val (.slice none 0 0),.val (.slice none 0 0),.val (.slice none 0 0),.val (.slice none 0 0),vi 0,.str [],vi 0,vi 0,vi 0,vi 0,vi 0,vi 0,vi 0])] (To.thenN (Wp.block ?_)))))))
 obtain ⟨o1,ho1,h⟩:=bind_of h
 refine kw [1,4,9,10,11] [4] [(1,.str a1),(4,.own 4 0),(9,rs18 a0.f_Services),(10,vi (ex19 a0)),(11,vi 0)] [(4,41,[.str [],.str [],.val (.slice none 0 0),.val (.slice none 0 0),.val (.slice none 0 0),.val (.slice none 0 0),.val (.slice none 0 0),.val (.slice none 0 0),.val (.slice none 0 0),vi 0,.str [],vi 0,vi 0,vi 0,vi 0,vi 0,vi 0,vi 0])] (Wp.weak (K':=[(1,.str a1),(4,.own 4 0),(9,rs18 a0.f_Services),(10,vi (ex19 a0)),(11,vi 0)]) (L':=[(4,41,[.str [],.str [],ls [],rs14 [],rs14 [],rs15 [],rs16 [],ls [],rs17 [],vi 0,.str [],vi 0,vi 0,vi 0,vi 0,vi 0,vi 0,vi 0])]) (.cons (.refl _) (.cons (.refl _) (.cons (.refl _) (.cons (.refl _) (.cons (.refl _) .nil))))) (.cons (.cons (.refl _) (.cons (.refl _) (.cons (.zero _ _) (.cons (.zero _ _) (.cons (.zero _ _) (.cons (.zero _ _) (.cons (.zero _ _) (.cons (.zero _ _) (.cons (.zero _ _) (.cons (.refl _) (.cons (.refl _) (.cons (.refl _) (.cons (.refl _) (.cons (.refl _) (.cons (.refl _) (.cons (.refl _) (.cons (.refl _) (.cons (.refl _) .nil)))))))))))))))))) .nil) (Wp.loopL (ok_load_Service_l1 n a1 a0.f_Services (ex19 a0) n 0 (S_api_Service.mk [] [] [] [] [] [] [] [] [] 0 zx20 0 0 0 0) o1 ho1 ?_)))
 rcases o1 with o1 | o1
 ·replace h:=sum_l h
  refine To.blockX (To.thenN (Wp.seq (rg [4,5] [4] [(4,.own 4 0),(5,vb false)] [(4,41,[.str [],.str [],.val (.slice none 0 0),.val (.slice none 0 0),.val (.slice none 0 0),.val (.slice none 0 0),.val (.slice none 0 0),.val (.slice none 0 0),.val (.slice none 0 0),vi 0,.str [],vi 0,vi 0,vi 0,vi 0,vi 0,vi 0,vi 0])] (To.thenN (Wp.ret (To.weak (K':=[(4,.own 4 0),(5,vb false)]) (L':=[(4,41,[.str [],.str [],ls [],rs14 [],rs14 [],rs15 [],rs16 [],ls [],rs17 [],vi 0,.str [],vi 0,vi 0,vi 0,vi 0,vi 0,vi 0,vi 0])]) (.cons (.refl _) (.cons (.refl _) .nil)) (.cons (.cons (.refl _) (.cons (.refl _) (.cons (.zero _ _) (.cons (.zero _ _) (.cons (.zero _ _) (.cons (.zero _ _) (.cons (.zero _ _) (.cons (.zero _ _) (.cons (.zero _ _) (.cons (.refl _) (.cons (.refl _) (.cons (.refl _) (.cons (.refl _) (.cons (.refl _) (.cons (.refl _) (.cons (.refl _) (.cons (.refl _) (.cons (.refl _) .nil)))))))))))))))))) .nil) ?_))))))
  cases h
  exact To.done hΓ (by kernel_rfl)
 ·replace h:=sum_r h
  refine To.blockR (To.thenR ?_)
  cases h
  exact To.done hΓ (by kernel_rfl)
def view_Orphans_1__e (n:Nat) (a0:S_api_Container) (c0:S_api_Project):Option (Bool) :=
 (load_Service n c0 a0.f_Spec.f_Service).bind fun r1 =>
 some (!r1.2)
theorem ok_view_Orphans_1__e (n:Nat) (a0:S_api_Container) (c0:S_api_Project) (r:Bool) (h:view_Orphans_1__e n a0 c0 = some r):CallsX Try.prog 41 [.agg (qc5 a0),.el (qc21 c0)] (vb r):=by
 unfold view_Orphans_1__e at h
 refine xo Try.f41 rfl fun F0 w0 _=>?_
 refine Wp.seq (rg [1,2] [2] [(1,.el (qc21 c0)),(2,.own 2 0)] [(2,49,(E_api_Container a0))] (To.thenN (Wp.seq ?_)))
 obtain ⟨r1,hr1,h⟩:=bind_of h
 refine rc [] 4 [5] [] [(5,vb r1.2)] [] (ok_load_Service n c0 a0.f_Spec.f_Service _ hr1) (To.thenN (Wp.seq (rg [3] [] [(3,vb (!r1.2))] [] (To.thenN (Wp.ret ?_)))))
 cases h
 exact To.done hΓ (by kernel_rfl)
def view_those_api_Container__view_Orphans_1_e_j2 (n:Nat) (v1_0:S_api_Project) (v5:List (S_api_Container)) (v8:List (S_api_Container)) (v9:Int) (v10:Int):Option ((List (S_api_Container))) :=
 if (decide (0 ≤ v10 ∧ v10 < (List.length v8:Int))) = true then ((view_Orphans_1__e n ((v8)[Int.toNat v10]?.getD Z_api_Container) v1_0).bind fun r1 =>
 if r1 = true then (if (decide ((List.length v5 + List.length ([((v8)[Int.toNat v10]?.getD Z_api_Container)]:List (S_api_Container))) * (216 + 1) ≤ limit)) = true then (some (v5 ++ ([((v8)[Int.toNat v10]?.getD Z_api_Container)]:List (S_api_Container)))) else none)
 else some v5) else none
theorem ok_view_those_api_Container__view_Orphans_1_e_j2 (n:Nat) (v1_0:S_api_Project) (v5:List (S_api_Container)) (v8:List (S_api_Container)) (v9:Int) (v10:Int) (o:(List (S_api_Container))) (h:view_those_api_Container__view_Orphans_1_e_j2 n v1_0 v5 v8 v9 v10 = some o) {F0:Fz} {w0:Pt Try.prog} {Q:Exit → Act → World → Prop} (hQ:To 23 F0 w0 [(1,.fn 41 [.el (qc21 v1_0)]),(5,.row 1005),(8,rs2 v8),(9,vi v9),(10,vi v10)] [(1005,49,[rc7 o])] .normal Q):Wp Try.prog 23 F0 w0 [(1,.fn 41 [.el (qc21 v1_0)]),(5,.row 1005),(8,rs2 v8),(9,vi v9),(10,vi v10)] [(1005,49,[rc7 v5])] (cA (cB (cB (cI (cI (cB (cA (cB (cB (cF Try.f40)))))))))) Q:=by
 unfold view_those_api_Container__view_Orphans_1_e_j2 at h
 refine Wp.block (Wp.seq ?_)
 obtain ⟨hc3,h⟩:=chk_of h
 refine r0 [1,5,7,8,9,10] [7,1005] [(1,.fn 41 [.el (qc21 v1_0)]),(5,.row 1005),(7,.own 7 0),(8,rs2 v8),(9,vi v9),(10,vi v10)] [(ex28 v8 v10),(1005,49,[rc7 v5])] (AllP.cons hc3 AllP.nil) (To.thenN (Wp.seq ?_))
 obtain ⟨r1,hr1,h⟩:=bind_of h
 refine rc [] 2 [1,5,7,8,9,10,16] [7,1005] [(1,.fn 41 [.el (qc21 v1_0)]),(5,.row 1005),(7,.own 7 0),(8,rs2 v8),(9,vi v9),(10,vi v10),(16,vb r1)] [(ex28 v8 v10),(1005,49,[rc7 v5])] (ok_view_Orphans_1__e n (ex5 v8 v10) v1_0 _ hr1) (To.thenN (cn h (fun h=>?_) (fun h=>?_)))
 ·obtain ⟨hc2,h⟩:=chk_of h
  refine rr [] [(2,rs2 ([(ex5 v8 v10)])),(3,rs2 (v5 ++ (ex20 v8 v10)))] [] [1,5,8,9,10] [20] [(1,.fn 41 [.el (qc21 v1_0)]),(5,.row 20),(8,rs2 v8),(9,vi v9),(10,vi v10)] [(20,49,[rc7 (v5 ++ (ex20 v8 v10))])] [(MkOb 18 [vi ((ex5 v8 v10).f_Id),.str ((ex5 v8 v10).f_Spec.f_Name),.str (ex26 v8 v10),.str (ex25 v8 v10),vi ((ex5 v8 v10).f_Spec.f_Number),.str ((ex5 v8 v10).f_Spec.f_Hash),ls ((ex5 v8 v10).f_Spec.f_Nets),ls ((ex5 v8 v10).f_Spec.f_Vols),.str (ex24 v8 v10),vi (ex22 v8 v10),vi (ex23 v8 v10),vi (ex21 v8 v10),vi (ex27 v8 v10),vi ((ex5 v8 v10).f_Spec.f_Tries),vi ((ex5 v8 v10).f_State),vi ((ex5 v8 v10).f_Code),vi ((ex5 v8 v10).f_Health),vi ((ex5 v8 v10).f_Runs)] 1 (rs2 ([(ex5 v8 v10)])) ∧ GoodR (rs2 ([(ex5 v8 v10)]))),_,(ex32 v5 v8 v10)] (AllP.cons (mkOb (by kernel_rfl) rfl (by kernel_rfl) (good_E_api_Container _)) (AllP.cons hc2 (AllP.cons (appOb rfl rfl (good_E_api_Container _)) AllP.nil))) (To.blockN (nt [1,5,8,9,10] [20] [(20,1005)] [1,5,8,9,10] [1005] [(1,.fn 41 [.el (qc21 v1_0)]),(5,.row 1005),(8,rs2 v8),(9,vi v9),(10,vi v10)] [(1005,49,[rc7 (v5 ++ (ex20 v8 v10))])] ?_))
  cases h
  exact hQ
 ·refine Wp.skip (To.blockN (kt [1,5,8,9,10] [1005] [(1,.fn 41 [.el (qc21 v1_0)]),(5,.row 1005),(8,rs2 v8),(9,vi v9),(10,vi v10)] [(1005,49,[rc7 v5])] ?_))
  cases h
  exact hQ
def view_those_api_Container__view_Orphans_1_e_l1 (n:Nat) (v1_0:S_api_Project) (v8:List (S_api_Container)) (v9:Int):Nat → (List (S_api_Container)) → Int → Option ((List (S_api_Container)))
 | 0,_,_=>none
 | k + 1,v5,v10=>if (decide (v10 < v9)) = true then ((view_those_api_Container__view_Orphans_1_e_j2 n v1_0 v5 v8 v9 v10).bind fun o1 =>
 view_those_api_Container__view_Orphans_1_e_l1 n v1_0 v8 v9 k o1 (IntKind.wrap .i64 (v10 + 1)))
 else some v5
theorem ok_view_those_api_Container__view_Orphans_1_e_l1 (n:Nat) (v1_0:S_api_Project) (v8:List (S_api_Container)) (v9:Int) {F0:Fz} {w0:Pt Try.prog} {Q:Exit → Act → World → Prop} (k:Nat):∀ (v5:List (S_api_Container)) (v10:Int) (o:(List (S_api_Container))),view_those_api_Container__view_Orphans_1_e_l1 n v1_0 v8 v9 k v5 v10 = some o → To 23 F0 w0 [(5,.row 1005)] [(1005,49,[rc7 o])] (.exit 0) Q → WL Try.prog 23 F0 w0 [(1,.fn 41 [.el (qc21 v1_0)]),(5,.row 1005),(8,rs2 v8),(9,vi v9),(10,vi v10)] [(1005,49,[rc7 v5])] (cI (cI (cB (cA (cB (cB (cF Try.f40))))))) Q:=by
 induction k with
 | zero=>intro v5 v10 o h; cases h
 | succ k ih =>
  intro v5 v10 o h hQ
  rw [view_those_api_Container__view_Orphans_1_e_l1] at h
  refine WL.round (Wp.seq (rg [1,5,8,9,10,11] [1005] [(1,.fn 41 [.el (qc21 v1_0)]),(5,.row 1005),(8,rs2 v8),(9,vi v9),(10,vi v10),(11,vb (decide (v10 < v9)))] [(1005,49,[rc7 v5])] (To.thenN (Wp.seq (cn h (fun h=>?_) (fun h=>?_))))))
  ·refine Wp.skip (To.thenN (Wp.seq ?_))
   obtain ⟨o1,ho1,h⟩:=bind_of h
   refine kw [1,5,8,9,10] [1005] [(1,.fn 41 [.el (qc21 v1_0)]),(5,.row 1005),(8,rs2 v8),(9,vi v9),(10,vi v10)] [(1005,49,[rc7 v5])] (ok_view_those_api_Container__view_Orphans_1_e_j2 n v1_0 v5 v8 v9 v10 o1 ho1 (To.thenN (rg [1,5,8,9,10] [1005] [(1,.fn 41 [.el (qc21 v1_0)]),(5,.row 1005),(8,rs2 v8),(9,vi v9),(ex7 v10)] [(1005,49,[rc7 o1])] (kt [1,5,8,9,10] [1005] [(1,.fn 41 [.el (qc21 v1_0)]),(5,.row 1005),(8,rs2 v8),(9,vi v9),(ex7 v10)] [(1005,49,[rc7 o1])] (To.again ?_)))))
   exact ih o1 (IntKind.wrap .i64 (v10 + 1)) _ h hQ
  ·refine Wp.exit (To.thenX (To.thenX (kt [5] [1005] [(5,.row 1005)] [(1005,49,[rc7 v5])] ?_)))
   cases h
   exact hQ
def view_those_api_Container__view_Orphans_1_e (n:Nat) (a0:List (S_api_Container)) (c0:S_api_Project):Option ((List (S_api_Container))) :=
 (view_those_api_Container__view_Orphans_1_e_l1 n c0 a0 (List.length a0:Int) n ([]:List (S_api_Container)) 0).bind fun o1 =>
 some o1
theorem ok_view_those_api_Container__view_Orphans_1_e (n:Nat) (a0:List (S_api_Container)) (c0:S_api_Project) (r:(List (S_api_Container))) (h:view_those_api_Container__view_Orphans_1_e n a0 c0 = some r):CallsX Try.prog 40 [rs2 a0,.fn 41 [.el (qc21 c0)]] (rs2 r):=by
 unfold view_those_api_Container__view_Orphans_1_e at h
 refine xo Try.f40 rfl fun F0 w0 _=>?_
 refine Wp.seq (rg [0,1] [] [(0,rs2 a0),(1,.fn 41 [.el (qc21 c0)])] [] (To.thenN (Wp.seq (rg [0,1,5] [] [(0,rs2 a0),(1,.fn 41 [.el (qc21 c0)]),(5,.val (.slice none 0 0))] [] (To.thenN (Wp.seq (Wp.seq (rg [1,5,8,9,10] [] [(1,.fn 41 [.el (qc21 c0)]),(5,.val (.slice none 0 0)),(8,rs2 a0),(ex8 a0),(10,vi 0)] [] (To.thenN (Wp.block ?_))))))))))
 obtain ⟨o1,ho1,h⟩:=bind_of h
 refine kw [1,5,8,9,10] [] [(1,.fn 41 [.el (qc21 c0)]),(5,.val (.slice none 0 0)),(8,rs2 a0),(ex8 a0),(10,vi 0)] [] (Wp.pre (St.vacant (t:=5) (k:=1005) (e:=49) (K':=[(1,.fn 41 [.el (qc21 c0)]),(5,.row 1005),(8,rs2 a0),(ex8 a0),(10,vi 0)]) (good_E_api_Container _) (by decide) (by kernel_rfl) (by kernel_rfl)) (kw [1,5,8,9,10] [1005] [(1,.fn 41 [.el (qc21 c0)]),(5,.row 1005),(8,rs2 a0),(ex8 a0),(10,vi 0)] [(1005,49,[rc7 []])] (Wp.loopL (ok_view_those_api_Container__view_Orphans_1_e_l1 n c0 a0 (List.length a0:Int) n ([]:List (S_api_Container)) 0 o1 ho1 (To.blockX (To.thenN (Wp.seq (rg [4] [1005] [(4,.row 1005)] [(1005,49,[rc7 o1])] (To.thenN (Wp.ret ?_))))))))))
 refine To.pre (St.settle (ks:=[1005]) (kk:=[4]) (kl:=[1005]) (K':=[(4,.row 1005)]) (L':=[(1005,49,[rc9 o1])]) (by kernel_rfl)) (To.pre (St.sealK [4] (K':=[(4,rs2 o1)]) (by kernel_rfl)) ?_)
 cases h
 exact To.done hΓ (by kernel_rfl)
def view_Orphans (n:Nat) (a0:S_ref36_Seen) (a1:S_api_Project):Option ((List (S_api_Container))) :=
 (view_Mine n a0 a1.f_Name).bind fun r1 =>
 (view_those_api_Container__view_Orphans_1_e n r1 a1).bind fun r2 =>
 some r2
theorem ok_view_Orphans (n:Nat) (a0:S_ref36_Seen) (a1:S_api_Project) (r:(List (S_api_Container))) (h:view_Orphans n a0 a1 = some r):CallsX Try.prog 9 [.agg (qc4 a0),.agg (qc21 a1)] (rs2 r):=by
 unfold view_Orphans at h
 refine xo Try.f9 rfl fun F0 w0 _=>?_
 refine Wp.seq (rg [2,3] [2,3] [(2,.own 2 0),(3,.own 3 0)] [(2,32,qc4 a0),(3,29,qc21 a1)] (To.thenN (Wp.seq ?_)))
 obtain ⟨r1,hr1,h⟩:=bind_of h
 obtain ⟨r2,hr2,h⟩:=bind_of h
 refine rr [(4,[3])] [(3,rs2 r1),(5,rs2 r2)] [] [4] [] [(4,rs2 r2)] [] [_,_] (AllP.cons (c1 (ok_view_Mine n a0 a1.f_Name _ hr1)) (AllP.cons (c1 (ok_view_those_api_Container__view_Orphans_1_e n r1 a1 _ hr2)) AllP.nil)) (To.thenN (Wp.ret ?_))
 cases h
 exact To.done hΓ (by kernel_rfl)
theorem good_E_api_Service (l:List (S_api_Service)):GoodR (.recs Z_api_Service E_api_Service l):=⟨Nat.le_of_ble_eq_true (by kernel_rfl),fun _=>⟨rfl,rfl⟩⟩
def law36_awake (n:Nat):Option (Bool) :=
 (view_Service n (S_ref36_Seen.mk ([(S_api_Container.mk 1 (S_api_Spec.mk [] [112] [119,101,98] 0 [] [] [] (S_api_Check.mk [] 0 0 0) 0 0) 0 0 0 0)]) [] []) [112] [119,101,98]).bind fun r1 =>
 ((if (((List.length r1:Int) == 1) == true) = true then view_Orphans n (S_ref36_Seen.mk ([(S_api_Container.mk 1 (S_api_Spec.mk [] [112] [119,101,98] 0 [] [] [] (S_api_Check.mk [] 0 0 0) 0 0) 0 0 0 0)]) [] []) (S_api_Project.mk [112] ([(S_api_Service.mk [100,98] [] [] [] [] [] [] [] [] 0 (S_api_Check.mk [] 0 0 0) 0 0 0 0)]) [] []) else some [])).bind fun r2 =>
 ((if ((bif ((List.length r1:Int) == 1) then ((List.length r2:Int) == 1) else false) == true) = true then view_Mine n (S_ref36_Seen.mk ([(S_api_Container.mk 1 (S_api_Spec.mk [] [112] [119,101,98] 0 [] [] [] (S_api_Check.mk [] 0 0 0) 0 0) 0 0 0 0)]) [] []) [113] else some [])).bind fun r3 =>
 lett ((bif (bif ((List.length r1:Int) == 1) then ((List.length r2:Int) == 1) else false) then ((List.length r3:Int) == 0) else false):Bool) fun x4 =>
 some x4
abbrev rc22 (l:List (S_api_Service)):D:=.rowc false (α:=S_api_Service) Z_api_Service E_api_Service l
theorem ok_law36_awake (n:Nat) (r:Bool) (h:law36_awake n = some r):CallsX Try.prog 8 [] (vb r):=by
 unfold law36_awake at h
 refine xo Try.f8 rfl fun F0 w0 _=>?_
 refine Wp.seq (rg [] [] [] [] (To.thenN (Wp.seq (rr [] [(2,rs2 ([(S_api_Container.mk 1 (S_api_Spec.mk [] [112] [119,101,98] 0 [] [] [] zx20 0 0) 0 0 0 0)]))] [] [1] [1,5] [(1,.own 1 0)] [(1,32,[.row 5,.val (.slice none 0 0),.val (.slice none 0 0)]),(5,49,[rc7 ([(S_api_Container.mk 1 (S_api_Spec.mk [] [112] [119,101,98] 0 [] [] [] zx20 0 0) 0 0 0 0)])])] [(MkOb 18 [vi 1,.str [],.str [112],.str [119,101,98],vi 0,.str [],.val (.slice none 0 0),.val (.slice none 0 0),.str [],vi 0,vi 0,vi 0,vi 0,vi 0,vi 0,vi 0,vi 0,vi 0] 1 (rs2 ([(S_api_Container.mk 1 (S_api_Spec.mk [] [112] [119,101,98] 0 [] [] [] zx20 0 0) 0 0 0 0)])) ∧ GoodR (rs2 ([(S_api_Container.mk 1 (S_api_Spec.mk [] [112] [119,101,98] 0 [] [] [] zx20 0 0) 0 0 0 0)])))] (AllP.cons (mkObW (weaks_eq (ds:=[vi 1,.str [],.str [112],.str [119,101,98],vi 0,.str [],.val (.slice none 0 0),.val (.slice none 0 0),.str [],vi 0,vi 0,vi 0,vi 0,vi 0,vi 0,vi 0,vi 0,vi 0]) (es:=[vi 1,.str [],.str [112],.str [119,101,98],vi 0,.str [],ls [],ls [],.str [],vi 0,vi 0,vi 0,vi 0,vi 0,vi 0,vi 0,vi 0,vi 0]) (by kernel_rfl) (.cons (.refl _) (.cons (.refl _) (.cons (.refl _) (.cons (.refl _) (.cons (.refl _) (.cons (.refl _) (.cons (.zero _ _) (.cons (.zero _ _) (.cons (.refl _) (.cons (.refl _) (.cons (.refl _) (.cons (.refl _) (.cons (.refl _) (.cons (.refl _) (.cons (.refl _) (.cons (.refl _) (.cons (.refl _) (.cons (.refl _) .nil)))))))))))))))))) (by kernel_rfl)) rfl (by kernel_rfl) (good_E_api_Container _)) AllP.nil) (To.thenN (Wp.seq (rr [] [(1,rs18 ([(S_api_Service.mk [100,98] [] [] [] [] [] [] [] [] 0 zx20 0 0 0 0)]))] [] [1,2] [1,2,5,8] [(1,.own 1 0),(2,.own 2 0)] [(1,32,[.row 5,.val (.slice none 0 0),.val (.slice none 0 0)]),(2,29,[.str [112],.row 8,.val (.slice none 0 0),.val (.slice none 0 0)]),(5,49,[rc7 ([(S_api_Container.mk 1 (S_api_Spec.mk [] [112] [119,101,98] 0 [] [] [] zx20 0 0) 0 0 0 0)])]),(8,41,[rc22 ([(S_api_Service.mk [100,98] [] [] [] [] [] [] [] [] 0 zx20 0 0 0 0)])])] [(MkOb 18 [.str [100,98],.str [],.val (.slice none 0 0),.val (.slice none 0 0),.val (.slice none 0 0),.val (.slice none 0 0),.val (.slice none 0 0),.val (.slice none 0 0),.val (.slice none 0 0),vi 0,.str [],vi 0,vi 0,vi 0,vi 0,vi 0,vi 0,vi 0] 1 (rs18 ([(S_api_Service.mk [100,98] [] [] [] [] [] [] [] [] 0 zx20 0 0 0 0)])) ∧ GoodR (rs18 ([(S_api_Service.mk [100,98] [] [] [] [] [] [] [] [] 0 zx20 0 0 0 0)])))] (AllP.cons (mkObW (weaks_eq (ds:=[.str [100,98],.str [],.val (.slice none 0 0),.val (.slice none 0 0),.val (.slice none 0 0),.val (.slice none 0 0),.val (.slice none 0 0),.val (.slice none 0 0),.val (.slice none 0 0),vi 0,.str [],vi 0,vi 0,vi 0,vi 0,vi 0,vi 0,vi 0]) (es:=[.str [100,98],.str [],ls [],rs14 [],rs14 [],rs15 [],rs16 [],ls [],rs17 [],vi 0,.str [],vi 0,vi 0,vi 0,vi 0,vi 0,vi 0,vi 0]) (by kernel_rfl) (.cons (.refl _) (.cons (.refl _) (.cons (.zero _ _) (.cons (.zero _ _) (.cons (.zero _ _) (.cons (.zero _ _) (.cons (.zero _ _) (.cons (.zero _ _) (.cons (.zero _ _) (.cons (.refl _) (.cons (.refl _) (.cons (.refl _) (.cons (.refl _) (.cons (.refl _) (.cons (.refl _) (.cons (.refl _) (.cons (.refl _) (.cons (.refl _) .nil)))))))))))))))))) (by kernel_rfl)) rfl (by kernel_rfl) (good_E_api_Service _)) AllP.nil) (To.thenN (Wp.seq ?_)))))))))
 obtain ⟨r1,hr1,h⟩:=bind_of h
 obtain ⟨r2,hr2,h⟩:=bind_of h
 obtain ⟨r3,hr3,h⟩:=bind_of h
 obtain ⟨x4,hx4,h⟩:=lett_of h
 refine rr [(1,[5]),(7,[8])] [(1,rs2 r1),(7,rs2 r2),(13,rs2 r3)] [] [0] [] [(0,vb (bif (bif ((List.length r1:Int) == 1) then ((List.length r2:Int) == 1) else false) then ((List.length r3:Int) == 0) else false))] [] [(true = true → CX Try.prog 10 [.agg [rs2 ([(S_api_Container.mk 1 (S_api_Spec.mk [] [112] [119,101,98] 0 [] [] [] zx20 0 0) 0 0 0 0)]),.val (.slice none 0 0),.val (.slice none 0 0)],.str [112],.str [119,101,98]] (rs2 r1)),((((List.length r1:Int) == 1) == true) = true → CX Try.prog 9 [.agg [rs2 ([(S_api_Container.mk 1 (S_api_Spec.mk [] [112] [119,101,98] 0 [] [] [] zx20 0 0) 0 0 0 0)]),.val (.slice none 0 0),.val (.slice none 0 0)],.agg [.str [112],rs18 ([(S_api_Service.mk [100,98] [] [] [] [] [] [] [] [] 0 zx20 0 0 0 0)]),.val (.slice none 0 0),.val (.slice none 0 0)]] (rs2 r2)),(((bif ((List.length r1:Int) == 1) then ((List.length r2:Int) == 1) else false) == true) = true → CX Try.prog 11 [.agg [rs2 ([(S_api_Container.mk 1 (S_api_Spec.mk [] [112] [119,101,98] 0 [] [] [] zx20 0 0) 0 0 0 0)]),.val (.slice none 0 0),.val (.slice none 0 0)],.str [113]] (rs2 r3))] (AllP.cons (fun _=>cx (callsX_args (.cons (.agg (.cons (.refl _) (.cons (.zero _ _) (.cons (.zero _ _) .nil)))) (.cons (.refl _) (.cons (.refl _) .nil))) (ok_view_Service n (S_ref36_Seen.mk ([(S_api_Container.mk 1 (S_api_Spec.mk [] [112] [119,101,98] 0 [] [] [] zx20 0 0) 0 0 0 0)]) [] []) [112] [119,101,98] _ hr1))) (AllP.cons (fun hg=>cx (callsX_args (.cons (.agg (.cons (.refl _) (.cons (.zero _ _) (.cons (.zero _ _) .nil)))) (.cons (.agg (.cons (.refl _) (.cons (.refl _) (.cons (.zero _ _) (.cons (.zero _ _) .nil))))) .nil)) (ok_view_Orphans n (S_ref36_Seen.mk ([(S_api_Container.mk 1 (S_api_Spec.mk [] [112] [119,101,98] 0 [] [] [] zx20 0 0) 0 0 0 0)]) [] []) (S_api_Project.mk [112] ([(S_api_Service.mk [100,98] [] [] [] [] [] [] [] [] 0 zx20 0 0 0 0)]) [] []) _ (if_t hg hr2)))) (AllP.cons (fun hg=>cx (callsX_args (.cons (.agg (.cons (.refl _) (.cons (.zero _ _) (.cons (.zero _ _) .nil)))) (.cons (.refl _) .nil)) (ok_view_Mine n (S_ref36_Seen.mk ([(S_api_Container.mk 1 (S_api_Spec.mk [] [112] [119,101,98] 0 [] [] [] zx20 0 0) 0 0 0 0)]) [] []) [113] _ (if_t hg hr3)))) AllP.nil))) (To.eq (K':=[(0,vb x4)]) (L':=[]) (by cases hx4; rfl) (by cases hx4; rfl) (To.thenN (Wp.ret ?_)))
 cases h
 exact To.done hΓ (by kernel_rfl)
def ref36_less (a0:S_api_Container) (a1:S_api_Container):Bool :=
 if (!(a0.f_Spec.f_Service == a1.f_Spec.f_Service)) = true then ((Op.bytesLess a0.f_Spec.f_Service a1.f_Spec.f_Service))
 else (if (a0.f_Spec.f_Number != a1.f_Spec.f_Number) = true then ((decide (a0.f_Spec.f_Number < a1.f_Spec.f_Number)))
 else ((decide (a0.f_Id < a1.f_Id))))
end Go.Proofs.Ytaecmkldkljioaa.M
