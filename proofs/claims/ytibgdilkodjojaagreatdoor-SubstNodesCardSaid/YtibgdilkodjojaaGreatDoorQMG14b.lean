import Derived.Test.YtibgdilkodjojaaGreatDoorQMG14a
set_option linter.all false
namespace Go.Proofs.YtibgdilkodjojaaGreatDoor.M
open Go.RowKit Go.Proofs.YtibgdilkodjojaaGreatDoor.RX
set_option maxRecDepth 100000
abbrev rs19 (l:List (UInt8)):D:=.recs (α:=UInt8) 0 e8 l
abbrev ex27 (x0:Int):=([(UInt8.ofNat (Int.toNat x0))]:List (UInt8))
abbrev ex28 (x0:Int):=(MkOb 1 [.val (.int .u8 x0)] 1 (rs19 [(UInt8.ofNat (Int.toNat x0))]) ∧ GoodR (rs19 [(UInt8.ofNat (Int.toNat x0))]))
abbrev ex29 (x0:S_tmpl_reader):Nat × List D:=(88,[.str x0.f_s,vi (IntKind.wrap .i64 (x0.f_at + 1)),vi x0.f_e])
abbrev ex30 (x0:Int):Nat × D:=(2,rs19 [(UInt8.ofNat (Int.toNat x0))])
abbrev ex56 (x0:S_tmpl_reader):=(Lib.hasPrefix (ex26 x0) ([123]:List UInt8))
abbrev ex57 (x0:S_tmpl_reader):=(Lib.hasPrefix (ex26 x0) ([36]:List UInt8))
abbrev ex58 (x0:List (UInt8)) (x1:Int):=(AppOb 0 e8 x0 (List.flatMap e8 (ex27 x1)) (List.length (ex27 x1)) (rs19 (x0 ++ (ex27 x1))) ∧ GoodR (rs19 (x0 ++ (ex27 x1))))
abbrev ex59 (x0:S_tmpl_reader):=(decide (0 ≤ x0.f_at ∧ x0.f_at ≤ (ex25 x0)))
abbrev ex60 (x0:List (UInt8)) (x1:Int):Nat × Nat × List D:=(92,5,[rc4 (x0 ++ (ex27 x1))])
abbrev ex61 (x0:List (UInt8)) (x1:Int):=(decide ((List.length x0 + List.length (ex27 x1)) * (1 + 1) ≤ limit))
abbrev ex62 (x0:List (UInt8)) (x1:Int):Nat × Nat × List D:=(4360,5,[rc4 (x0 ++ (ex27 x1))])
theorem ok_tmpl_reader_parts__o0_j2 (R_tmpl_reader_parts__o0:Int → S_tmpl_reader → Option ((List (S_tmpl_Part)) × S_tmpl_reader)) (hR_tmpl_reader_parts__o0:hR18 R_tmpl_reader_parts__o0) (n:Nat) (v1:Int) (v8:Int) (b5:List (S_tmpl_Part)) (b6:List (UInt8)) (b1000000:S_tmpl_reader) (o:(List (S_tmpl_Part)) × (List (UInt8)) × S_tmpl_reader) (h:tmpl_reader_parts__o0_j2 R_tmpl_reader_parts__o0 n v1 v8 b5 b6 b1000000 = some o) {F0:Fz} {w0:Pt Tryz.prog} {Q:Exit → Act → World → Prop} (hQ:To 128 F0 w0 [(0,.own 1000000 0),(1,vi v1),(5,.own 5 0),(6,.own 6 0),(7,.fn 72 [.own 6 0,.own 5 0])] [(5,56,[.row 4300]),(6,75,[.row 4360]),(4300,91,[rc16 o.1]),(4360,5,[rc4 o.2.1]),(1000000,88,qc17 o.2.2)] .normal Q):Wp Tryz.prog 128 F0 w0 [(0,.own 1000000 0),(1,vi v1),(5,.own 5 0),(6,.own 6 0),(7,.fn 72 [.own 6 0,.own 5 0]),(8,.val (.int .u8 v8))] [(5,56,[.row 4300]),(6,75,[.row 4360]),(4300,91,[rc16 b5]),(4360,5,[rc4 b6]),(1000000,88,qc17 b1000000)] (cA (cB (cB (cB (cB (cB (cB (cB (cB (cI (cB (cF Tryz.f50)))))))))))) Q:=by
 unfold tmpl_reader_parts__o0_j2 at h
 refine Wp.block (Wp.seq ?_)
 obtain ⟨hc15,h⟩:=chk_of h
 refine Wp.regionD hm hΓ [(9,vb (ex57 b1000000))] [0,1,5,6,7,8,78] [5,6,4300,4360,1000000] (K':=[(0,.own 1000000 0),(1,vi v1),(5,.own 5 0),(6,.own 6 0),(7,.fn 72 [.own 6 0,.own 5 0]),(8,.val (.int .u8 v8)),(78,vb (ex57 b1000000))]) (L':=[(5,56,[.row 4300]),(6,75,[.row 4360]),(4300,91,[rc16 b5]),(4360,5,[rc4 b6]),(1000000,88,qc17 b1000000)]) (ob:=[(ex59 b1000000) = true,(true = true → CX Tryz.prog 73 [.str (ex26 b1000000),.str [36]] (vb (ex57 b1000000)))]) (by kernel_rfl) (AllP.cons hc15 (AllP.cons (fun _=>cx (Sh.hasPrefix73)) AllP.nil)) (To.thenN (cn h (fun h=>?_) (fun h=>?_)))
 ·refine Wp.seq ?_
  obtain ⟨u4,h⟩:=chk_of h
  obtain ⟨hc5,h⟩:=chk_of h
  refine rr [] [(ex30 v8),(3,rs19 (b6 ++ (ex27 v8)))] [] [0,1,5,6,7] [5,6,92,4300,1000000] [(0,.own 1000000 0),(1,vi v1),(5,.own 5 0),(6,.own 6 0),(7,.fn 72 [.own 6 0,.own 5 0])] [(5,56,[.row 4300]),(6,75,[.row 92]),(ex60 b6 v8),(4300,91,[rc16 b5]),(1000000,88,qc17 b1000000)] [(ex28 v8),_,(ex58 b6 v8)] (AllP.cons (mkOb (All8.cells (ns:=[v8]) (.cons (u8_of u4) .nil)) rfl rfl (good8 _)) (AllP.cons hc5 (AllP.cons (appOb rfl rfl (good8 _)) AllP.nil))) (To.thenN (rg [0,1,5,6,7] [5,6,92,4300,1000000] [(0,.own 1000000 0),(1,vi v1),(5,.own 5 0),(6,.own 6 0),(7,.fn 72 [.own 6 0,.own 5 0])] [(5,56,[.row 4300]),(6,75,[.row 92]),(ex60 b6 v8),(4300,91,[rc16 b5]),(ex22 b1000000)] (To.blockN (nt [0,1,5,6,7] [5,6,92,4300,1000000] [(92,4360)] [0,1,5,6,7] [5,6,4300,4360,1000000] [(0,.own 1000000 0),(1,vi v1),(5,.own 5 0),(6,.own 6 0),(7,.fn 72 [.own 6 0,.own 5 0])] [(5,56,[.row 4300]),(6,75,[.row 4360]),(4300,91,[rc16 b5]),(ex62 b6 v8),(ex22 b1000000)] ?_))))
  cases h
  exact hQ
 ·refine Wp.seq ?_
  obtain ⟨hc14,h⟩:=chk_of h
  refine Wp.regionD hm hΓ [(9,vb (ex56 b1000000))] [0,1,5,6,7,100] [5,6,4300,4360,1000000] (K':=[(0,.own 1000000 0),(1,vi v1),(5,.own 5 0),(6,.own 6 0),(7,.fn 72 [.own 6 0,.own 5 0]),(100,vb (ex56 b1000000))]) (L':=[(5,56,[.row 4300]),(6,75,[.row 4360]),(4300,91,[rc16 b5]),(4360,5,[rc4 b6]),(1000000,88,qc17 b1000000)]) (ob:=[(ex59 b1000000) = true,(true = true → CX Tryz.prog 73 [.str (ex26 b1000000),.str [123]] (vb (ex56 b1000000)))]) (by kernel_rfl) (AllP.cons hc14 (AllP.cons (fun _=>cx (Sh.hasPrefix73)) AllP.nil)) (To.thenN (cn h (fun h=>?_) (fun h=>?_)))
  ·refine Wp.seq (rg [0,1,5,6,7] [5,6,4300,4360,1000000] [(0,.own 1000000 0),(1,vi v1),(5,.own 5 0),(6,.own 6 0),(7,.fn 72 [.own 6 0,.own 5 0])] [(5,56,[.row 4300]),(6,75,[.row 4360]),(4300,91,[rc16 b5]),(4360,5,[rc4 b6]),(ex22 b1000000)] (To.thenN (Wp.seq ?_)))
   obtain ⟨r6,hr6,h⟩:=bind_of h
   refine rb [] 1 ⟨[(1000000,6),(1000001,5),(1010000,4360),(1010100,4300)],[(200,4360),(300,4300),(1000000,6),(1000001,5)],[.own 1000000 0,.own 1000001 0],[(1000000,75,[.row 1010000]),(1000001,56,[.row 1010100]),(1010000,5,[rc4 b6]),(1010100,91,[rc16 b5])],.tup [],[(200,5,[rc4 r6.1]),(300,91,[rc16 r6.2]),(1000000,75,[.row 200]),(1000001,56,[.row 300])]⟩ [0,1,5,6,7] [5,6,4300,4360,1000000] [(0,.own 1000000 0),(1,vi v1),(5,.own 5 0),(6,.own 6 0),(7,.fn 72 [.own 6 0,.own 5 0])] [(5,56,[.row 4300]),(6,75,[.row 4360]),(4300,91,[rc16 r6.2]),(4360,5,[rc4 r6.1]),(ex22 b1000000)] ((ok_tmpl_reader_parts_1__o0__o1 n b6 b5 _ hr6)) (To.thenN ?_)
   obtain ⟨r7,hr7,h⟩:=bind_of h
   obtain ⟨hc8,h⟩:=chk_of h
   obtain ⟨hc9,h⟩:=chk_of h
   refine Wp.regionO hm hΓ [] [(5,rs3 ([zx2])),(6,rs3 (r6.2 ++ ([zx2]:List (S_tmpl_Part)))),(8,rs3 (List.set (r6.2 ++ ([zx2]:List (S_tmpl_Part))) (Int.toNat (List.length r6.2:Int)) r7.1))] [(3,⟨[(1000000,1000000)],[(1000000,1000000)],[.own 1000000 0,vi v1],[(ex22 b1000000)],.agg (qc7 r7.1),[(1000000,88,qc17 r7.2)]⟩)] [0,1,5,6,7,120,121,122,123,124,125,126,127] [5,6,125,126,4300,4360,1000000] [0,1,5,6,7] [5,6,126,4360,1000000] (K':=[(0,.own 1000000 0),(1,vi v1),(5,.own 5 0),(6,.own 6 0),(7,.fn 72 [.own 6 0,.own 5 0])]) (L':=[(5,56,[.row 126]),(6,75,[.row 4360]),(126,91,[rc16 (List.set (r6.2 ++ ([zx2]:List (S_tmpl_Part))) (Int.toNat (List.length r6.2:Int)) r7.1)]),(4360,5,[rc4 r6.1]),(1000000,88,qc17 r7.2)]) (ob:=[CbOb (CallsB Tryz.prog) 74 [.own 1000000 0,vi v1] [some (ex29 b1000000)] ⟨[(1000000,1000000)],[(1000000,1000000)],[.own 1000000 0,vi v1],[(ex22 b1000000)],.agg (qc7 r7.1),[(1000000,88,qc17 r7.2)]⟩,(MkOb 4 [.str [],.str [],vi 0,.val (.slice none 0 0)] 1 (rs3 ([zx2])) ∧ GoodR (rs3 ([zx2]))),(decide ((List.length r6.2 + List.length ([zx2]:List (S_tmpl_Part))) * (64 + 1) ≤ limit)) = true,(AppOb zx2 E_tmpl_Part r6.2 (List.flatMap E_tmpl_Part ([zx2]:List (S_tmpl_Part))) (List.length ([zx2]:List (S_tmpl_Part))) (rs3 (r6.2 ++ ([zx2]:List (S_tmpl_Part)))) ∧ GoodR (rs3 (r6.2 ++ ([zx2]:List (S_tmpl_Part))))),(decide (0 ≤ (List.length r6.2:Int) ∧ (List.length r6.2:Int) < (List.length (r6.2 ++ ([zx2]:List (S_tmpl_Part))):Int))) = true,(decide (0 ≤ (List.length r6.2:Int) ∧ (List.length r6.2:Int) < (List.length (r6.2 ++ ([zx2]:List (S_tmpl_Part))):Int))) = true,UpdOb zx2 E_tmpl_Part (r6.2 ++ ([zx2]:List (S_tmpl_Part))) (List.length r6.2:Int) 0 (qc7 r7.1) (rs3 (List.set (r6.2 ++ ([zx2]:List (S_tmpl_Part))) (Int.toNat (List.length r6.2:Int)) r7.1))]) (by kernel_rfl) (by kernel_rfl) (AllP.cons (⟨(ok_tmpl_reader_reference__o0 R_tmpl_reader_parts__o0 hR_tmpl_reader_parts__o0 n v1 (ex24 b1000000) _ hr7),by kernel_rfl,by kernel_rfl⟩) (AllP.cons (mkObW (weaks_eq (ds:=[.str [],.str [],vi 0,.val (.slice none 0 0)]) (es:=[.str [],.str [],vi 0,tn5 []]) (by kernel_rfl) (.cons (.refl _) (.cons (.refl _) (.cons (.refl _) (.cons (.zeroT _ _ _) .nil)))) (by kernel_rfl)) rfl (by kernel_rfl) (good_E_tmpl_Part _)) (AllP.cons hc8 (AllP.cons (appOb rfl rfl (good_E_tmpl_Part _)) (AllP.cons hc9 (AllP.cons hc9 (AllP.cons (updOb (by kernel_rfl)) AllP.nil))))))) ?_
   refine To.blockN (nt [0,1,5,6,7] [5,6,126,4360,1000000] [(126,4300)] [0,1,5,6,7] [5,6,4300,4360,1000000] [(0,.own 1000000 0),(1,vi v1),(5,.own 5 0),(6,.own 6 0),(7,.fn 72 [.own 6 0,.own 5 0])] [(5,56,[.row 4300]),(6,75,[.row 4360]),(4300,91,[rc16 (List.set (r6.2 ++ ([zx2]:List (S_tmpl_Part))) (Int.toNat (List.length r6.2:Int)) r7.1)]),(4360,5,[rc4 r6.1]),(1000000,88,qc17 r7.2)] ?_)
   cases h
   exact hQ
  ·refine Wp.seq ?_
   obtain ⟨r10,hr10,h⟩:=bind_of h
   refine rb [] 1 ⟨[(1000000,6),(1000001,5),(1010000,4360),(1010100,4300)],[(200,4360),(300,4300),(1000000,6),(1000001,5)],[.own 1000000 0,.own 1000001 0],[(1000000,75,[.row 1010000]),(1000001,56,[.row 1010100]),(1010000,5,[rc4 b6]),(1010100,91,[rc16 b5])],.tup [],[(200,5,[rc4 r10.1]),(300,91,[rc16 r10.2]),(1000000,75,[.row 200]),(1000001,56,[.row 300])]⟩ [0,1,5,6,7] [5,6,4300,4360,1000000] [(0,.own 1000000 0),(1,vi v1),(5,.own 5 0),(6,.own 6 0),(7,.fn 72 [.own 6 0,.own 5 0])] [(5,56,[.row 4300]),(6,75,[.row 4360]),(4300,91,[rc16 r10.2]),(4360,5,[rc4 r10.1]),(1000000,88,qc17 b1000000)] ((ok_tmpl_reader_parts_1__o0__o1 n b6 b5 _ hr10)) (To.thenN ?_)
   obtain ⟨r11,hr11,h⟩:=bind_of h
   obtain ⟨hc12,h⟩:=chk_of h
   obtain ⟨hc13,h⟩:=chk_of h
   refine Wp.regionO hm hΓ [] [(5,rs3 ([zx2])),(6,rs3 (r10.2 ++ ([zx2]:List (S_tmpl_Part)))),(8,rs3 (List.set (r10.2 ++ ([zx2]:List (S_tmpl_Part))) (Int.toNat (List.length r10.2:Int)) r11.1))] [(3,⟨[(1000000,1000000)],[(1000000,1000000)],[.own 1000000 0,vi v1],[(1000000,88,qc17 b1000000)],.agg (qc7 r11.1),[(1000000,88,qc17 r11.2)]⟩)] [0,1,5,6,7,70,71,72,73,74,75,76,77] [5,6,75,76,4300,4360,1000000] [0,1,5,6,7] [5,6,76,4360,1000000] (K':=[(0,.own 1000000 0),(1,vi v1),(5,.own 5 0),(6,.own 6 0),(7,.fn 72 [.own 6 0,.own 5 0])]) (L':=[(5,56,[.row 76]),(6,75,[.row 4360]),(76,91,[rc16 (List.set (r10.2 ++ ([zx2]:List (S_tmpl_Part))) (Int.toNat (List.length r10.2:Int)) r11.1)]),(4360,5,[rc4 r10.1]),(1000000,88,qc17 r11.2)]) (ob:=[CbOb (CallsB Tryz.prog) 75 [.own 1000000 0,vi v1] [some (88,qc17 b1000000)] ⟨[(1000000,1000000)],[(1000000,1000000)],[.own 1000000 0,vi v1],[(1000000,88,qc17 b1000000)],.agg (qc7 r11.1),[(1000000,88,qc17 r11.2)]⟩,(MkOb 4 [.str [],.str [],vi 0,.val (.slice none 0 0)] 1 (rs3 ([zx2])) ∧ GoodR (rs3 ([zx2]))),(decide ((List.length r10.2 + List.length ([zx2]:List (S_tmpl_Part))) * (64 + 1) ≤ limit)) = true,(AppOb zx2 E_tmpl_Part r10.2 (List.flatMap E_tmpl_Part ([zx2]:List (S_tmpl_Part))) (List.length ([zx2]:List (S_tmpl_Part))) (rs3 (r10.2 ++ ([zx2]:List (S_tmpl_Part)))) ∧ GoodR (rs3 (r10.2 ++ ([zx2]:List (S_tmpl_Part))))),(decide (0 ≤ (List.length r10.2:Int) ∧ (List.length r10.2:Int) < (List.length (r10.2 ++ ([zx2]:List (S_tmpl_Part))):Int))) = true,(decide (0 ≤ (List.length r10.2:Int) ∧ (List.length r10.2:Int) < (List.length (r10.2 ++ ([zx2]:List (S_tmpl_Part))):Int))) = true,UpdOb zx2 E_tmpl_Part (r10.2 ++ ([zx2]:List (S_tmpl_Part))) (List.length r10.2:Int) 0 (qc7 r11.1) (rs3 (List.set (r10.2 ++ ([zx2]:List (S_tmpl_Part))) (Int.toNat (List.length r10.2:Int)) r11.1))]) (by kernel_rfl) (by kernel_rfl) (AllP.cons (⟨(ok_tmpl_reader_plain__o0 n v1 b1000000 _ hr11),by kernel_rfl,by kernel_rfl⟩) (AllP.cons (mkObW (weaks_eq (ds:=[.str [],.str [],vi 0,.val (.slice none 0 0)]) (es:=[.str [],.str [],vi 0,tn5 []]) (by kernel_rfl) (.cons (.refl _) (.cons (.refl _) (.cons (.refl _) (.cons (.zeroT _ _ _) .nil)))) (by kernel_rfl)) rfl (by kernel_rfl) (good_E_tmpl_Part _)) (AllP.cons hc12 (AllP.cons (appOb rfl rfl (good_E_tmpl_Part _)) (AllP.cons hc13 (AllP.cons hc13 (AllP.cons (updOb (by kernel_rfl)) AllP.nil))))))) ?_
   refine To.blockN (nt [0,1,5,6,7] [5,6,76,4360,1000000] [(76,4300)] [0,1,5,6,7] [5,6,4300,4360,1000000] [(0,.own 1000000 0),(1,vi v1),(5,.own 5 0),(6,.own 6 0),(7,.fn 72 [.own 6 0,.own 5 0])] [(5,56,[.row 4300]),(6,75,[.row 4360]),(4300,91,[rc16 (List.set (r10.2 ++ ([zx2]:List (S_tmpl_Part))) (Int.toNat (List.length r10.2:Int)) r11.1)]),(4360,5,[rc4 r10.1]),(1000000,88,qc17 r11.2)] ?_)
   cases h
   exact hQ
def tmpl_reader_parts__o0_j3 (R_tmpl_reader_parts__o0:Int → S_tmpl_reader → Option ((List (S_tmpl_Part)) × S_tmpl_reader)) (n:Nat) (v1:Int) (v8:Int) (b5:List (S_tmpl_Part)) (b6:List (UInt8)) (b1000000:S_tmpl_reader):Option ((List (S_tmpl_Part)) × (List (UInt8)) × S_tmpl_reader) :=
 if (decide (0 ≤ b1000000.f_at ∧ b1000000.f_at ≤ (List.length b1000000.f_s:Int))) = true then (if (Lib.hasPrefix (List.drop (Int.toNat b1000000.f_at) b1000000.f_s) ([36]:List UInt8)) = true then (if (decide (0 ≤ v8 ∧ v8 < 256)) = true then (if (decide ((List.length b6 + List.length ([(UInt8.ofNat (Int.toNat v8))]:List (UInt8))) * (1 + 1) ≤ limit)) = true then (some (b5,(b6 ++ ([(UInt8.ofNat (Int.toNat v8))]:List (UInt8))),(S_tmpl_reader.mk b1000000.f_s (IntKind.wrap .i64 (b1000000.f_at + 1)) b1000000.f_e))) else none) else none)
 else (if (decide (0 ≤ b1000000.f_at ∧ b1000000.f_at ≤ (List.length b1000000.f_s:Int))) = true then (if (Lib.hasPrefix (List.drop (Int.toNat b1000000.f_at) b1000000.f_s) ([123]:List UInt8)) = true then ((tmpl_reader_parts_1__o0__o1 n b6 b5).bind fun r6 =>
 (tmpl_reader_reference__o0 R_tmpl_reader_parts__o0 n v1 (S_tmpl_reader.mk b1000000.f_s (IntKind.wrap .i64 (b1000000.f_at + 1)) b1000000.f_e)).bind fun r7 =>
 if (decide ((List.length r6.2 + List.length ([(S_tmpl_Part.mk [] [] 0 [])]:List (S_tmpl_Part))) * (64 + 1) ≤ limit)) = true then (if (decide (0 ≤ (List.length r6.2:Int) ∧ (List.length r6.2:Int) < (List.length (r6.2 ++ ([(S_tmpl_Part.mk [] [] 0 [])]:List (S_tmpl_Part))):Int))) = true then (some ((List.set (r6.2 ++ ([(S_tmpl_Part.mk [] [] 0 [])]:List (S_tmpl_Part))) (Int.toNat (List.length r6.2:Int)) r7.1),r6.1,r7.2)) else none) else none)
 else ((tmpl_reader_parts_1__o0__o1 n b6 b5).bind fun r10 =>
 (tmpl_reader_plain__o0 n v1 b1000000).bind fun r11 =>
 if (decide ((List.length r10.2 + List.length ([(S_tmpl_Part.mk [] [] 0 [])]:List (S_tmpl_Part))) * (64 + 1) ≤ limit)) = true then (if (decide (0 ≤ (List.length r10.2:Int) ∧ (List.length r10.2:Int) < (List.length (r10.2 ++ ([(S_tmpl_Part.mk [] [] 0 [])]:List (S_tmpl_Part))):Int))) = true then (some ((List.set (r10.2 ++ ([(S_tmpl_Part.mk [] [] 0 [])]:List (S_tmpl_Part))) (Int.toNat (List.length r10.2:Int)) r11.1),r10.1,r11.2)) else none) else none)) else none)) else none
theorem ok_tmpl_reader_parts__o0_j3 (R_tmpl_reader_parts__o0:Int → S_tmpl_reader → Option ((List (S_tmpl_Part)) × S_tmpl_reader)) (hR_tmpl_reader_parts__o0:hR18 R_tmpl_reader_parts__o0) (n:Nat) (v1:Int) (v8:Int) (b5:List (S_tmpl_Part)) (b6:List (UInt8)) (b1000000:S_tmpl_reader) (o:(List (S_tmpl_Part)) × (List (UInt8)) × S_tmpl_reader) (h:tmpl_reader_parts__o0_j3 R_tmpl_reader_parts__o0 n v1 v8 b5 b6 b1000000 = some o) {F0:Fz} {w0:Pt Tryz.prog} {Q:Exit → Act → World → Prop} (hQ:To 128 F0 w0 [(0,.own 1000000 0),(1,vi v1),(5,.own 5 0),(6,.own 6 0),(7,.fn 72 [.own 6 0,.own 5 0])] [(5,56,[.row 4300]),(6,75,[.row 4360]),(4300,91,[rc16 o.1]),(4360,5,[rc4 o.2.1]),(1000000,88,qc17 o.2.2)] .normal Q):Wp Tryz.prog 128 F0 w0 [(0,.own 1000000 0),(1,vi v1),(5,.own 5 0),(6,.own 6 0),(7,.fn 72 [.own 6 0,.own 5 0]),(8,.val (.int .u8 v8))] [(5,56,[.row 4300]),(6,75,[.row 4360]),(4300,91,[rc16 b5]),(4360,5,[rc4 b6]),(1000000,88,qc17 b1000000)] (cA (cB (cB (cB (cB (cB (cB (cB (cB (cI (cB (cF Tryz.f50)))))))))))) Q:=by
 unfold tmpl_reader_parts__o0_j3 at h
 refine Wp.block (Wp.seq ?_)
 obtain ⟨hc15,h⟩:=chk_of h
 refine Wp.regionD hm hΓ [(9,vb (ex57 b1000000))] [0,1,5,6,7,8,78] [5,6,4300,4360,1000000] (K':=[(0,.own 1000000 0),(1,vi v1),(5,.own 5 0),(6,.own 6 0),(7,.fn 72 [.own 6 0,.own 5 0]),(8,.val (.int .u8 v8)),(78,vb (ex57 b1000000))]) (L':=[(5,56,[.row 4300]),(6,75,[.row 4360]),(4300,91,[rc16 b5]),(4360,5,[rc4 b6]),(1000000,88,qc17 b1000000)]) (ob:=[(ex59 b1000000) = true,(true = true → CX Tryz.prog 73 [.str (ex26 b1000000),.str [36]] (vb (ex57 b1000000)))]) (by kernel_rfl) (AllP.cons hc15 (AllP.cons (fun _=>cx (Sh.hasPrefix73)) AllP.nil)) (To.thenN (cn h (fun h=>?_) (fun h=>?_)))
 ·refine Wp.seq ?_
  obtain ⟨u4,h⟩:=chk_of h
  obtain ⟨hc5,h⟩:=chk_of h
  refine rr [] [(ex30 v8),(3,rs19 (b6 ++ (ex27 v8)))] [] [0,1,5,6,7] [5,6,92,4300,1000000] [(0,.own 1000000 0),(1,vi v1),(5,.own 5 0),(6,.own 6 0),(7,.fn 72 [.own 6 0,.own 5 0])] [(5,56,[.row 4300]),(6,75,[.row 92]),(ex60 b6 v8),(4300,91,[rc16 b5]),(1000000,88,qc17 b1000000)] [(ex28 v8),_,(ex58 b6 v8)] (AllP.cons (mkOb (All8.cells (ns:=[v8]) (.cons (u8_of u4) .nil)) rfl rfl (good8 _)) (AllP.cons hc5 (AllP.cons (appOb rfl rfl (good8 _)) AllP.nil))) (To.thenN (rg [0,1,5,6,7] [5,6,92,4300,1000000] [(0,.own 1000000 0),(1,vi v1),(5,.own 5 0),(6,.own 6 0),(7,.fn 72 [.own 6 0,.own 5 0])] [(5,56,[.row 4300]),(6,75,[.row 92]),(ex60 b6 v8),(4300,91,[rc16 b5]),(ex22 b1000000)] (To.blockN (nt [0,1,5,6,7] [5,6,92,4300,1000000] [(92,4360)] [0,1,5,6,7] [5,6,4300,4360,1000000] [(0,.own 1000000 0),(1,vi v1),(5,.own 5 0),(6,.own 6 0),(7,.fn 72 [.own 6 0,.own 5 0])] [(5,56,[.row 4300]),(6,75,[.row 4360]),(4300,91,[rc16 b5]),(ex62 b6 v8),(ex22 b1000000)] ?_))))
  cases h
  exact hQ
 ·refine Wp.seq ?_
  obtain ⟨hc14,h⟩:=chk_of h
  refine Wp.regionD hm hΓ [(9,vb (ex56 b1000000))] [0,1,5,6,7,100] [5,6,4300,4360,1000000] (K':=[(0,.own 1000000 0),(1,vi v1),(5,.own 5 0),(6,.own 6 0),(7,.fn 72 [.own 6 0,.own 5 0]),(100,vb (ex56 b1000000))]) (L':=[(5,56,[.row 4300]),(6,75,[.row 4360]),(4300,91,[rc16 b5]),(4360,5,[rc4 b6]),(1000000,88,qc17 b1000000)]) (ob:=[(ex59 b1000000) = true,(true = true → CX Tryz.prog 73 [.str (ex26 b1000000),.str [123]] (vb (ex56 b1000000)))]) (by kernel_rfl) (AllP.cons hc14 (AllP.cons (fun _=>cx (Sh.hasPrefix73)) AllP.nil)) (To.thenN (cn h (fun h=>?_) (fun h=>?_)))
  ·refine Wp.seq (rg [0,1,5,6,7] [5,6,4300,4360,1000000] [(0,.own 1000000 0),(1,vi v1),(5,.own 5 0),(6,.own 6 0),(7,.fn 72 [.own 6 0,.own 5 0])] [(5,56,[.row 4300]),(6,75,[.row 4360]),(4300,91,[rc16 b5]),(4360,5,[rc4 b6]),(ex22 b1000000)] (To.thenN (Wp.seq ?_)))
   obtain ⟨r6,hr6,h⟩:=bind_of h
   refine rb [] 1 ⟨[(1000000,6),(1000001,5),(1010000,4360),(1010100,4300)],[(200,4360),(300,4300),(1000000,6),(1000001,5)],[.own 1000000 0,.own 1000001 0],[(1000000,75,[.row 1010000]),(1000001,56,[.row 1010100]),(1010000,5,[rc4 b6]),(1010100,91,[rc16 b5])],.tup [],[(200,5,[rc4 r6.1]),(300,91,[rc16 r6.2]),(1000000,75,[.row 200]),(1000001,56,[.row 300])]⟩ [0,1,5,6,7] [5,6,4300,4360,1000000] [(0,.own 1000000 0),(1,vi v1),(5,.own 5 0),(6,.own 6 0),(7,.fn 72 [.own 6 0,.own 5 0])] [(5,56,[.row 4300]),(6,75,[.row 4360]),(4300,91,[rc16 r6.2]),(4360,5,[rc4 r6.1]),(ex22 b1000000)] ((ok_tmpl_reader_parts_1__o0__o1 n b6 b5 _ hr6)) (To.thenN ?_)
   obtain ⟨r7,hr7,h⟩:=bind_of h
   obtain ⟨hc8,h⟩:=chk_of h
   obtain ⟨hc9,h⟩:=chk_of h
   refine Wp.regionO hm hΓ [] [(5,rs3 ([zx2])),(6,rs3 (r6.2 ++ ([zx2]:List (S_tmpl_Part)))),(8,rs3 (List.set (r6.2 ++ ([zx2]:List (S_tmpl_Part))) (Int.toNat (List.length r6.2:Int)) r7.1))] [(3,⟨[(1000000,1000000)],[(1000000,1000000)],[.own 1000000 0,vi v1],[(ex22 b1000000)],.agg (qc7 r7.1),[(1000000,88,qc17 r7.2)]⟩)] [0,1,5,6,7,120,121,122,123,124,125,126,127] [5,6,125,126,4300,4360,1000000] [0,1,5,6,7] [5,6,126,4360,1000000] (K':=[(0,.own 1000000 0),(1,vi v1),(5,.own 5 0),(6,.own 6 0),(7,.fn 72 [.own 6 0,.own 5 0])]) (L':=[(5,56,[.row 126]),(6,75,[.row 4360]),(126,91,[rc16 (List.set (r6.2 ++ ([zx2]:List (S_tmpl_Part))) (Int.toNat (List.length r6.2:Int)) r7.1)]),(4360,5,[rc4 r6.1]),(1000000,88,qc17 r7.2)]) (ob:=[CbOb (CallsB Tryz.prog) 74 [.own 1000000 0,vi v1] [some (ex29 b1000000)] ⟨[(1000000,1000000)],[(1000000,1000000)],[.own 1000000 0,vi v1],[(ex22 b1000000)],.agg (qc7 r7.1),[(1000000,88,qc17 r7.2)]⟩,(MkOb 4 [.str [],.str [],vi 0,.val (.slice none 0 0)] 1 (rs3 ([zx2])) ∧ GoodR (rs3 ([zx2]))),(decide ((List.length r6.2 + List.length ([zx2]:List (S_tmpl_Part))) * (64 + 1) ≤ limit)) = true,(AppOb zx2 E_tmpl_Part r6.2 (List.flatMap E_tmpl_Part ([zx2]:List (S_tmpl_Part))) (List.length ([zx2]:List (S_tmpl_Part))) (rs3 (r6.2 ++ ([zx2]:List (S_tmpl_Part)))) ∧ GoodR (rs3 (r6.2 ++ ([zx2]:List (S_tmpl_Part))))),(decide (0 ≤ (List.length r6.2:Int) ∧ (List.length r6.2:Int) < (List.length (r6.2 ++ ([zx2]:List (S_tmpl_Part))):Int))) = true,(decide (0 ≤ (List.length r6.2:Int) ∧ (List.length r6.2:Int) < (List.length (r6.2 ++ ([zx2]:List (S_tmpl_Part))):Int))) = true,UpdOb zx2 E_tmpl_Part (r6.2 ++ ([zx2]:List (S_tmpl_Part))) (List.length r6.2:Int) 0 (qc7 r7.1) (rs3 (List.set (r6.2 ++ ([zx2]:List (S_tmpl_Part))) (Int.toNat (List.length r6.2:Int)) r7.1))]) (by kernel_rfl) (by kernel_rfl) (AllP.cons (⟨(ok_tmpl_reader_reference__o0 R_tmpl_reader_parts__o0 hR_tmpl_reader_parts__o0 n v1 (ex24 b1000000) _ hr7),by kernel_rfl,by kernel_rfl⟩) (AllP.cons (mkObW (weaks_eq (ds:=[.str [],.str [],vi 0,.val (.slice none 0 0)]) (es:=[.str [],.str [],vi 0,tn5 []]) (by kernel_rfl) (.cons (.refl _) (.cons (.refl _) (.cons (.refl _) (.cons (.zeroT _ _ _) .nil)))) (by kernel_rfl)) rfl (by kernel_rfl) (good_E_tmpl_Part _)) (AllP.cons hc8 (AllP.cons (appOb rfl rfl (good_E_tmpl_Part _)) (AllP.cons hc9 (AllP.cons hc9 (AllP.cons (updOb (by kernel_rfl)) AllP.nil))))))) ?_
   refine To.blockN (nt [0,1,5,6,7] [5,6,126,4360,1000000] [(126,4300)] [0,1,5,6,7] [5,6,4300,4360,1000000] [(0,.own 1000000 0),(1,vi v1),(5,.own 5 0),(6,.own 6 0),(7,.fn 72 [.own 6 0,.own 5 0])] [(5,56,[.row 4300]),(6,75,[.row 4360]),(4300,91,[rc16 (List.set (r6.2 ++ ([zx2]:List (S_tmpl_Part))) (Int.toNat (List.length r6.2:Int)) r7.1)]),(4360,5,[rc4 r6.1]),(1000000,88,qc17 r7.2)] ?_)
   cases h
   exact hQ
  ·refine Wp.seq ?_
   obtain ⟨r10,hr10,h⟩:=bind_of h
   refine rb [] 1 ⟨[(1000000,6),(1000001,5),(1010000,4360),(1010100,4300)],[(200,4360),(300,4300),(1000000,6),(1000001,5)],[.own 1000000 0,.own 1000001 0],[(1000000,75,[.row 1010000]),(1000001,56,[.row 1010100]),(1010000,5,[rc4 b6]),(1010100,91,[rc16 b5])],.tup [],[(200,5,[rc4 r10.1]),(300,91,[rc16 r10.2]),(1000000,75,[.row 200]),(1000001,56,[.row 300])]⟩ [0,1,5,6,7] [5,6,4300,4360,1000000] [(0,.own 1000000 0),(1,vi v1),(5,.own 5 0),(6,.own 6 0),(7,.fn 72 [.own 6 0,.own 5 0])] [(5,56,[.row 4300]),(6,75,[.row 4360]),(4300,91,[rc16 r10.2]),(4360,5,[rc4 r10.1]),(1000000,88,qc17 b1000000)] ((ok_tmpl_reader_parts_1__o0__o1 n b6 b5 _ hr10)) (To.thenN ?_)
   obtain ⟨r11,hr11,h⟩:=bind_of h
   obtain ⟨hc12,h⟩:=chk_of h
   obtain ⟨hc13,h⟩:=chk_of h
   refine Wp.regionO hm hΓ [] [(5,rs3 ([zx2])),(6,rs3 (r10.2 ++ ([zx2]:List (S_tmpl_Part)))),(8,rs3 (List.set (r10.2 ++ ([zx2]:List (S_tmpl_Part))) (Int.toNat (List.length r10.2:Int)) r11.1))] [(3,⟨[(1000000,1000000)],[(1000000,1000000)],[.own 1000000 0,vi v1],[(1000000,88,qc17 b1000000)],.agg (qc7 r11.1),[(1000000,88,qc17 r11.2)]⟩)] [0,1,5,6,7,70,71,72,73,74,75,76,77] [5,6,75,76,4300,4360,1000000] [0,1,5,6,7] [5,6,76,4360,1000000] (K':=[(0,.own 1000000 0),(1,vi v1),(5,.own 5 0),(6,.own 6 0),(7,.fn 72 [.own 6 0,.own 5 0])]) (L':=[(5,56,[.row 76]),(6,75,[.row 4360]),(76,91,[rc16 (List.set (r10.2 ++ ([zx2]:List (S_tmpl_Part))) (Int.toNat (List.length r10.2:Int)) r11.1)]),(4360,5,[rc4 r10.1]),(1000000,88,qc17 r11.2)]) (ob:=[CbOb (CallsB Tryz.prog) 75 [.own 1000000 0,vi v1] [some (88,qc17 b1000000)] ⟨[(1000000,1000000)],[(1000000,1000000)],[.own 1000000 0,vi v1],[(1000000,88,qc17 b1000000)],.agg (qc7 r11.1),[(1000000,88,qc17 r11.2)]⟩,(MkOb 4 [.str [],.str [],vi 0,.val (.slice none 0 0)] 1 (rs3 ([zx2])) ∧ GoodR (rs3 ([zx2]))),(decide ((List.length r10.2 + List.length ([zx2]:List (S_tmpl_Part))) * (64 + 1) ≤ limit)) = true,(AppOb zx2 E_tmpl_Part r10.2 (List.flatMap E_tmpl_Part ([zx2]:List (S_tmpl_Part))) (List.length ([zx2]:List (S_tmpl_Part))) (rs3 (r10.2 ++ ([zx2]:List (S_tmpl_Part)))) ∧ GoodR (rs3 (r10.2 ++ ([zx2]:List (S_tmpl_Part))))),(decide (0 ≤ (List.length r10.2:Int) ∧ (List.length r10.2:Int) < (List.length (r10.2 ++ ([zx2]:List (S_tmpl_Part))):Int))) = true,(decide (0 ≤ (List.length r10.2:Int) ∧ (List.length r10.2:Int) < (List.length (r10.2 ++ ([zx2]:List (S_tmpl_Part))):Int))) = true,UpdOb zx2 E_tmpl_Part (r10.2 ++ ([zx2]:List (S_tmpl_Part))) (List.length r10.2:Int) 0 (qc7 r11.1) (rs3 (List.set (r10.2 ++ ([zx2]:List (S_tmpl_Part))) (Int.toNat (List.length r10.2:Int)) r11.1))]) (by kernel_rfl) (by kernel_rfl) (AllP.cons (⟨(ok_tmpl_reader_plain__o0 n v1 b1000000 _ hr11),by kernel_rfl,by kernel_rfl⟩) (AllP.cons (mkObW (weaks_eq (ds:=[.str [],.str [],vi 0,.val (.slice none 0 0)]) (es:=[.str [],.str [],vi 0,tn5 []]) (by kernel_rfl) (.cons (.refl _) (.cons (.refl _) (.cons (.refl _) (.cons (.zeroT _ _ _) .nil)))) (by kernel_rfl)) rfl (by kernel_rfl) (good_E_tmpl_Part _)) (AllP.cons hc12 (AllP.cons (appOb rfl rfl (good_E_tmpl_Part _)) (AllP.cons hc13 (AllP.cons hc13 (AllP.cons (updOb (by kernel_rfl)) AllP.nil))))))) ?_
   refine To.blockN (nt [0,1,5,6,7] [5,6,76,4360,1000000] [(76,4300)] [0,1,5,6,7] [5,6,4300,4360,1000000] [(0,.own 1000000 0),(1,vi v1),(5,.own 5 0),(6,.own 6 0),(7,.fn 72 [.own 6 0,.own 5 0])] [(5,56,[.row 4300]),(6,75,[.row 4360]),(4300,91,[rc16 (List.set (r10.2 ++ ([zx2]:List (S_tmpl_Part))) (Int.toNat (List.length r10.2:Int)) r11.1)]),(4360,5,[rc4 r10.1]),(1000000,88,qc17 r11.2)] ?_)
   cases h
   exact hQ
mutual
def tmpl_reader_parts__o0_g1_e (R_tmpl_reader_parts__o0:Int → S_tmpl_reader → Option ((List (S_tmpl_Part)) × S_tmpl_reader)) (n:Nat):Nat → Int → S_tmpl_reader → Option ((List (S_tmpl_Part)) × S_tmpl_reader)
 | 0,_,_=>none
 | k + 1,v1,b1000000=>if ((!(((decide (v1 > 1)) == true) && ((bif (b1000000.f_e != 0) then true else (b1000000.f_at == (List.length b1000000.f_s:Int))) == false)) || decide (0 ≤ b1000000.f_at ∧ b1000000.f_at < (List.length b1000000.f_s:Int)))) = true then (lett ((bif (bif (b1000000.f_e != 0) then true else (b1000000.f_at == (List.length b1000000.f_s:Int))) then true else (bif (decide (v1 > 1)) then ((((b1000000.f_s)[Int.toNat b1000000.f_at]?.getD 0).toNat:Int) == 125) else false)):Bool) fun x1 =>
 if x1 = true then ((tmpl_reader_parts_1__o0__o1 n [] []).bind fun r2 =>
 some (r2.2,b1000000))
 else (if (decide (0 ≤ b1000000.f_at ∧ b1000000.f_at < (List.length b1000000.f_s:Int))) = true then (if ((((b1000000.f_s)[Int.toNat b1000000.f_at]?.getD 0).toNat:Int) != 36) = true then (if (decide ((List.length ([]:List (UInt8)) + List.length ([((b1000000.f_s)[Int.toNat b1000000.f_at]?.getD 0)]:List (UInt8))) * (1 + 1) ≤ limit)) = true then (tmpl_reader_parts__o0_g1_0 R_tmpl_reader_parts__o0 n k v1 [] (([]:List (UInt8)) ++ ([((b1000000.f_s)[Int.toNat b1000000.f_at]?.getD 0)]:List (UInt8))) (S_tmpl_reader.mk b1000000.f_s (IntKind.wrap .i64 (b1000000.f_at + 1)) b1000000.f_e)) else none)
 else ((tmpl_reader_parts__o0_j2 R_tmpl_reader_parts__o0 n v1 (((b1000000.f_s)[Int.toNat b1000000.f_at]?.getD 0).toNat:Int) [] [] (S_tmpl_reader.mk b1000000.f_s (IntKind.wrap .i64 (b1000000.f_at + 1)) b1000000.f_e)).bind fun o4 =>
 tmpl_reader_parts__o0_g1_0 R_tmpl_reader_parts__o0 n k v1 o4.1 o4.2.1 o4.2.2)) else none)) else none
def tmpl_reader_parts__o0_g1_0 (R_tmpl_reader_parts__o0:Int → S_tmpl_reader → Option ((List (S_tmpl_Part)) × S_tmpl_reader)) (n:Nat):Nat → Int → (List (S_tmpl_Part)) → (List (UInt8)) → S_tmpl_reader → Option ((List (S_tmpl_Part)) × S_tmpl_reader)
 | 0,_,_,_,_=>none
 | k + 1,v1,b5,b6,b1000000=>if ((!(((decide (v1 > 1)) == true) && ((bif (b1000000.f_e != 0) then true else (b1000000.f_at == (List.length b1000000.f_s:Int))) == false)) || decide (0 ≤ b1000000.f_at ∧ b1000000.f_at < (List.length b1000000.f_s:Int)))) = true then (lett ((bif (bif (b1000000.f_e != 0) then true else (b1000000.f_at == (List.length b1000000.f_s:Int))) then true else (bif (decide (v1 > 1)) then ((((b1000000.f_s)[Int.toNat b1000000.f_at]?.getD 0).toNat:Int) == 125) else false)):Bool) fun x1 =>
 if x1 = true then ((tmpl_reader_parts_1__o0__o1 n b6 b5).bind fun r2 =>
 some (r2.2,b1000000))
 else (if (decide (0 ≤ b1000000.f_at ∧ b1000000.f_at < (List.length b1000000.f_s:Int))) = true then (if ((((b1000000.f_s)[Int.toNat b1000000.f_at]?.getD 0).toNat:Int) != 36) = true then (if (decide ((List.length b6 + List.length ([((b1000000.f_s)[Int.toNat b1000000.f_at]?.getD 0)]:List (UInt8))) * (1 + 1) ≤ limit)) = true then (tmpl_reader_parts__o0_g1_0 R_tmpl_reader_parts__o0 n k v1 b5 (b6 ++ ([((b1000000.f_s)[Int.toNat b1000000.f_at]?.getD 0)]:List (UInt8))) (S_tmpl_reader.mk b1000000.f_s (IntKind.wrap .i64 (b1000000.f_at + 1)) b1000000.f_e)) else none)
 else ((tmpl_reader_parts__o0_j3 R_tmpl_reader_parts__o0 n v1 (((b1000000.f_s)[Int.toNat b1000000.f_at]?.getD 0).toNat:Int) b5 b6 (S_tmpl_reader.mk b1000000.f_s (IntKind.wrap .i64 (b1000000.f_at + 1)) b1000000.f_e)).bind fun o4 =>
 tmpl_reader_parts__o0_g1_0 R_tmpl_reader_parts__o0 n k v1 o4.1 o4.2.1 o4.2.2)) else none)) else none
end
abbrev ex31 (x0:Int) (x1:S_tmpl_reader):=(!(((decide (x0 > 1)) == true) && ((bif (x1.f_e != 0) then true else (x1.f_at == (List.length x1.f_s:Int))) == false)) || decide (0 ≤ x1.f_at ∧ x1.f_at < (List.length x1.f_s:Int)))
abbrev ex32 (x0:S_tmpl_reader):=(decide (0 ≤ x0.f_at ∧ x0.f_at < (List.length x0.f_s:Int)))
abbrev ex63 (x0:S_tmpl_reader):=([(ex23 x0)]:List (UInt8))
abbrev ex64 (x0:S_tmpl_reader):Nat × D:=(8,.val (.int .u8 ((ex23 x0).toNat:Int)))
abbrev ex65 (x0:S_tmpl_reader) (x1:Int):Nat × D:=(42,vb (bif (bif (x0.f_e != 0) then true else (x0.f_at == (List.length x0.f_s:Int))) then true else (bif (decide (x1 > 1)) then (((ex23 x0).toNat:Int) == 125) else false)))
abbrev ex66 (x0:S_tmpl_reader):=(MkOb 1 [.val (.int .u8 ((ex23 x0).toNat:Int))] 1 (rs19 ([(ex23 x0)])) ∧ GoodR (rs19 ([(ex23 x0)])))
abbrev ex67 (x0:S_tmpl_reader):=(((ex23 x0).toNat:Int) != 36)
abbrev ex73 (x0:S_tmpl_reader):=(([]:List (UInt8)) ++ (ex63 x0))
theorem ok_tmpl_reader_parts__o0_g1 (R_tmpl_reader_parts__o0:Int → S_tmpl_reader → Option ((List (S_tmpl_Part)) × S_tmpl_reader)) (hR_tmpl_reader_parts__o0:hR18 R_tmpl_reader_parts__o0) (n:Nat) {F0:Fz} {w0:Pt Tryz.prog} {Q:Exit → Act → World → Prop} (k:Nat):(∀ (v1:Int) (b1000000:S_tmpl_reader) (o:(List (S_tmpl_Part)) × S_tmpl_reader),tmpl_reader_parts__o0_g1_e R_tmpl_reader_parts__o0 n k v1 b1000000 = some o → To 128 F0 w0 [(4,.row 1004)] [(1004,91,[rc16 o.1]),(1000000,88,qc17 o.2)] .ret Q → WG Tryz.prog 128 F0 w0 [(0,.own 1000000 0),(1,vi v1)] [(1000000,88,qc17 b1000000)] (cI (cB (cF Tryz.f50))) (cI (cB (cF Tryz.f50))) Q) ∧
 (∀ (v1:Int) (b5:List (S_tmpl_Part)) (b6:List (UInt8)) (b1000000:S_tmpl_reader) (o:(List (S_tmpl_Part)) × S_tmpl_reader),tmpl_reader_parts__o0_g1_0 R_tmpl_reader_parts__o0 n k v1 b5 b6 b1000000 = some o → To 128 F0 w0 [(4,.row 1004)] [(1004,91,[rc16 o.1]),(1000000,88,qc17 o.2)] .ret Q → WG Tryz.prog 128 F0 w0 [(0,.own 1000000 0),(1,vi v1),(5,.own 5 0),(6,.own 6 0),(7,.fn 72 [.own 6 0,.own 5 0])] [(5,56,[.row 4300]),(6,75,[.row 4360]),(4300,91,[rc16 b5]),(4360,5,[rc4 b6]),(1000000,88,qc17 b1000000)] (cI (cB (cF Tryz.f50))) (cG 0 (cB (cF Tryz.f50))) Q):=by
 induction k with
 | zero=>exact ⟨(by intro v1 b1000000 o h; cases h),(by intro v1 b5 b6 b1000000 o h; cases h)⟩
 | succ k ih =>
  refine ⟨?_,?_⟩
  ·intro v1 b1000000 o h hQ
   rw [tmpl_reader_parts__o0_g1_e] at h
   refine WG.pass (Wp.seq (rg [0,1,5] [5,1000000] [(0,.own 1000000 0),(1,vi v1),(5,.own 5 0)] [(5,56,[.val (.slice none 0 0)]),(1000000,88,qc17 b1000000)] (To.thenN (Wp.seq (rg [0,1,5,6] [5,6,1000000] [(0,.own 1000000 0),(1,vi v1),(5,.own 5 0),(6,.own 6 0)] [(5,56,[.val (.slice none 0 0)]),(6,75,[.val (.slice none 0 0)]),(1000000,88,qc17 b1000000)] (To.thenN (Wp.seq (rg [0,1,5,6,7] [5,6,1000000] [(0,.own 1000000 0),(1,vi v1),(5,.own 5 0),(6,.own 6 0),(7,.fn 72 [.own 6 0,.own 5 0])] [(5,56,[.val (.slice none 0 0)]),(6,75,[.val (.slice none 0 0)]),(1000000,88,qc17 b1000000)] (To.thenN (Wp.seq ?_))))))))))
   refine kw [0,1,5,6,7] [5,6,1000000] [(0,.own 1000000 0),(1,vi v1),(5,.own 5 0),(6,.own 6 0),(7,.fn 72 [.own 6 0,.own 5 0])] [(5,56,[.val (.slice none 0 0)]),(6,75,[.val (.slice none 0 0)]),(1000000,88,qc17 b1000000)] (Wp.pre (St.vacantB 5 0 4300 91 (good_E_tmpl_Part _) (by decide) (by kernel_rfl) (L':=[(5,56,[.row 4300]),(6,75,[.val (.slice none 0 0)]),(1000000,88,qc17 b1000000)]) (by kernel_rfl)) (kw [0,1,5,6,7] [5,6,4300,1000000] [(0,.own 1000000 0),(1,vi v1),(5,.own 5 0),(6,.own 6 0),(7,.fn 72 [.own 6 0,.own 5 0])] [(5,56,[.row 4300]),(6,75,[.val (.slice none 0 0)]),(4300,91,[rc16 []]),(1000000,88,qc17 b1000000)] (Wp.pre (St.vacantB 6 0 4360 5 (good8 _) (by decide) (by kernel_rfl) (L':=[(5,56,[.row 4300]),(6,75,[.row 4360]),(4300,91,[rc16 []]),(1000000,88,qc17 b1000000)]) (by kernel_rfl)) (kw [0,1,5,6,7] [5,6,4300,4360,1000000] [(0,.own 1000000 0),(1,vi v1),(5,.own 5 0),(6,.own 6 0),(7,.fn 72 [.own 6 0,.own 5 0])] [(5,56,[.row 4300]),(6,75,[.row 4360]),(4300,91,[rc16 []]),(4360,5,[rc4 []]),(1000000,88,qc17 b1000000)] (Wp.label (To.thenN (Wp.seq (Wp.seq ?_))))))))
   obtain ⟨hc6,h⟩:=chk_of h
   obtain ⟨x1,hx1,h⟩:=lett_of h
   refine Wp.regionD hm hΓ [] [0,1,5,6,7,42] [5,6,4300,4360,1000000] (K':=[(0,.own 1000000 0),(1,vi v1),(5,.own 5 0),(6,.own 6 0),(7,.fn 72 [.own 6 0,.own 5 0]),(ex65 b1000000 v1)]) (L':=[(5,56,[.row 4300]),(6,75,[.row 4360]),(4300,91,[rc16 []]),(4360,5,[rc4 []]),(1000000,88,qc17 b1000000)]) (ob:=[(ex31 v1 b1000000) = true]) (by kernel_rfl) (AllP.cons hc6 AllP.nil) (To.eq (K':=[(0,.own 1000000 0),(1,vi v1),(5,.own 5 0),(6,.own 6 0),(7,.fn 72 [.own 6 0,.own 5 0]),(42,vb x1)]) (L':=[(5,56,[.row 4300]),(6,75,[.row 4360]),(4300,91,[rc16 []]),(4360,5,[rc4 []]),(1000000,88,qc17 b1000000)]) (by cases hx1; rfl) (by cases hx1; rfl) (To.thenN (cn h (fun h=>?_) (fun h=>?_))))
   ·refine Wp.seq ?_
    obtain ⟨r2,hr2,h⟩:=bind_of h
    refine rb [] 1 ⟨[(1000000,6),(1000001,5),(1010000,4360),(1010100,4300)],[(200,4360),(300,4300),(1000000,6),(1000001,5)],[.own 1000000 0,.own 1000001 0],[(1000000,75,[.row 1010000]),(1000001,56,[.row 1010100]),(1010000,5,[rc4 []]),(1010100,91,[rc16 []])],.tup [],[(200,5,[rc4 r2.1]),(300,91,[rc16 r2.2]),(1000000,75,[.row 200]),(1000001,56,[.row 300])]⟩ [5] [5,4300,1000000] [(5,.own 5 0)] [(5,56,[.row 4300]),(4300,91,[rc16 r2.2]),(1000000,88,qc17 b1000000)] ((ok_tmpl_reader_parts_1__o0__o1 n [] [] _ hr2)) (To.thenN (Wp.seq (rg [4] [4300,1000000] [(4,.row 4300)] [(4300,91,[rc16 r2.2]),(1000000,88,qc17 b1000000)] (To.thenN (Wp.ret (To.thenR (To.goesO (.inr (.inl rfl)) (nt [4] [4300,1000000] [(4300,1004)] [4] [1004,1000000] [(4,.row 1004)] [(1004,91,[rc16 r2.2]),(1000000,88,qc17 b1000000)] ?_))))))))
    cases h
    exact hQ
   ·refine Wp.skip (To.thenN (Wp.seq ?_))
    obtain ⟨hc5,h⟩:=chk_of h
    refine Wp.regionD hm hΓ [] [0,1,5,6,7,8] [5,6,4300,4360,1000000] (K':=[(0,.own 1000000 0),(1,vi v1),(5,.own 5 0),(6,.own 6 0),(7,.fn 72 [.own 6 0,.own 5 0]),(ex64 b1000000)]) (L':=[(5,56,[.row 4300]),(6,75,[.row 4360]),(4300,91,[rc16 []]),(4360,5,[rc4 []]),(1000000,88,qc17 b1000000)]) (ob:=[(ex32 b1000000) = true]) (by kernel_rfl) (AllP.cons hc5 AllP.nil) (To.thenN (Wp.seq (rg [0,1,5,6,7,8] [5,6,4300,4360,1000000] [(0,.own 1000000 0),(1,vi v1),(5,.own 5 0),(6,.own 6 0),(7,.fn 72 [.own 6 0,.own 5 0]),(ex64 b1000000)] [(5,56,[.row 4300]),(6,75,[.row 4360]),(4300,91,[rc16 []]),(4360,5,[rc4 []]),(ex22 b1000000)] (To.thenN (Wp.seq (Wp.seq (rg [0,1,5,6,7,8,63] [5,6,4300,4360,1000000] [(0,.own 1000000 0),(1,vi v1),(5,.own 5 0),(6,.own 6 0),(7,.fn 72 [.own 6 0,.own 5 0]),(ex64 b1000000),(63,vb (ex67 b1000000))] [(5,56,[.row 4300]),(6,75,[.row 4360]),(4300,91,[rc16 []]),(4360,5,[rc4 []]),(ex22 b1000000)] (To.thenN (cn h (fun h=>?_) (fun h=>?_))))))))))
    ·refine Wp.seq ?_
     obtain ⟨hc3,h⟩:=chk_of h
     refine rr [] [(2,rs19 ([(ex23 b1000000)])),(3,rs19 (ex73 b1000000))] [] [0,1,5,6,7] [5,6,67,4300,1000000] [(0,.own 1000000 0),(1,vi v1),(5,.own 5 0),(6,.own 6 0),(7,.fn 72 [.own 6 0,.own 5 0])] [(5,56,[.row 4300]),(6,75,[.row 67]),(67,5,[rc4 (ex73 b1000000)]),(4300,91,[rc16 []]),(ex22 b1000000)] [(ex66 b1000000),_,(AppOb 0 e8 ([]:List (UInt8)) (List.flatMap e8 (ex63 b1000000)) (List.length (ex63 b1000000)) (rs19 (ex73 b1000000)) ∧ GoodR (rs19 (ex73 b1000000)))] (AllP.cons (mkOb (All8.cells (ns:=[((ex23 b1000000).toNat:Int)]) (.cons rfl .nil)) rfl rfl (good8 _)) (AllP.cons hc3 (AllP.cons (appOb rfl rfl (good8 _)) AllP.nil))) (To.thenN (Wp.goto (To.thenG (nt [0,1,5,6,7] [5,6,67,4300,1000000] [(67,4360)] [0,1,5,6,7] [5,6,4300,4360,1000000] [(0,.own 1000000 0),(1,vi v1),(5,.own 5 0),(6,.own 6 0),(7,.fn 72 [.own 6 0,.own 5 0])] [(5,56,[.row 4300]),(6,75,[.row 4360]),(4300,91,[rc16 []]),(4360,5,[rc4 (ex73 b1000000)]),(ex22 b1000000)] (To.goto (rest:=cG 0 (cB (cF Tryz.f50))) (by kernel_rfl) ?_)))))
     exact ih.2 v1 [] (ex73 b1000000) (ex24 b1000000) _ h hQ
    ·refine Wp.skip (To.thenN (Wp.seq ?_))
     obtain ⟨o4,ho4,h⟩:=bind_of h
     refine kw [0,1,5,6,7,8] [5,6,4300,4360,1000000] [(0,.own 1000000 0),(1,vi v1),(5,.own 5 0),(6,.own 6 0),(7,.fn 72 [.own 6 0,.own 5 0]),(ex64 b1000000)] [(5,56,[.row 4300]),(6,75,[.row 4360]),(4300,91,[rc16 []]),(4360,5,[rc4 []]),(ex22 b1000000)] (ok_tmpl_reader_parts__o0_j2 R_tmpl_reader_parts__o0 hR_tmpl_reader_parts__o0 n v1 ((ex23 b1000000).toNat:Int) [] [] (ex24 b1000000) o4 ho4 (To.thenN (Wp.goto (kt [0,1,5,6,7] [5,6,4300,4360,1000000] [(0,.own 1000000 0),(1,vi v1),(5,.own 5 0),(6,.own 6 0),(7,.fn 72 [.own 6 0,.own 5 0])] [(5,56,[.row 4300]),(6,75,[.row 4360]),(4300,91,[rc16 o4.1]),(4360,5,[rc4 o4.2.1]),(1000000,88,qc17 o4.2.2)] (To.goto (rest:=cG 0 (cB (cF Tryz.f50))) (by kernel_rfl) ?_)))))
     exact ih.2 v1 o4.1 o4.2.1 o4.2.2 _ h hQ
  ·intro v1 b5 b6 b1000000 o h hQ
   rw [tmpl_reader_parts__o0_g1_0] at h
   refine WG.pass (Wp.seq (Wp.skip (To.thenN (Wp.seq (Wp.seq ?_)))))
   obtain ⟨hc6,h⟩:=chk_of h
   obtain ⟨x1,hx1,h⟩:=lett_of h
   refine Wp.regionD hm hΓ [] [0,1,5,6,7,42] [5,6,4300,4360,1000000] (K':=[(0,.own 1000000 0),(1,vi v1),(5,.own 5 0),(6,.own 6 0),(7,.fn 72 [.own 6 0,.own 5 0]),(ex65 b1000000 v1)]) (L':=[(5,56,[.row 4300]),(6,75,[.row 4360]),(4300,91,[rc16 b5]),(4360,5,[rc4 b6]),(1000000,88,qc17 b1000000)]) (ob:=[(ex31 v1 b1000000) = true]) (by kernel_rfl) (AllP.cons hc6 AllP.nil) (To.eq (K':=[(0,.own 1000000 0),(1,vi v1),(5,.own 5 0),(6,.own 6 0),(7,.fn 72 [.own 6 0,.own 5 0]),(42,vb x1)]) (L':=[(5,56,[.row 4300]),(6,75,[.row 4360]),(4300,91,[rc16 b5]),(4360,5,[rc4 b6]),(1000000,88,qc17 b1000000)]) (by cases hx1; rfl) (by cases hx1; rfl) (To.thenN (cn h (fun h=>?_) (fun h=>?_))))
   ·refine Wp.seq ?_
    obtain ⟨r2,hr2,h⟩:=bind_of h
    refine rb [] 1 ⟨[(1000000,6),(1000001,5),(1010000,4360),(1010100,4300)],[(200,4360),(300,4300),(1000000,6),(1000001,5)],[.own 1000000 0,.own 1000001 0],[(1000000,75,[.row 1010000]),(1000001,56,[.row 1010100]),(1010000,5,[rc4 b6]),(1010100,91,[rc16 b5])],.tup [],[(200,5,[rc4 r2.1]),(300,91,[rc16 r2.2]),(1000000,75,[.row 200]),(1000001,56,[.row 300])]⟩ [5] [5,4300,1000000] [(5,.own 5 0)] [(5,56,[.row 4300]),(4300,91,[rc16 r2.2]),(1000000,88,qc17 b1000000)] ((ok_tmpl_reader_parts_1__o0__o1 n b6 b5 _ hr2)) (To.thenN (Wp.seq (rg [4] [4300,1000000] [(4,.row 4300)] [(4300,91,[rc16 r2.2]),(1000000,88,qc17 b1000000)] (To.thenN (Wp.ret (To.thenR (To.goesO (.inr (.inl rfl)) (nt [4] [4300,1000000] [(4300,1004)] [4] [1004,1000000] [(4,.row 1004)] [(1004,91,[rc16 r2.2]),(1000000,88,qc17 b1000000)] ?_))))))))
    cases h
    exact hQ
   ·refine Wp.skip (To.thenN (Wp.seq ?_))
    obtain ⟨hc5,h⟩:=chk_of h
    refine Wp.regionD hm hΓ [] [0,1,5,6,7,8] [5,6,4300,4360,1000000] (K':=[(0,.own 1000000 0),(1,vi v1),(5,.own 5 0),(6,.own 6 0),(7,.fn 72 [.own 6 0,.own 5 0]),(ex64 b1000000)]) (L':=[(5,56,[.row 4300]),(6,75,[.row 4360]),(4300,91,[rc16 b5]),(4360,5,[rc4 b6]),(1000000,88,qc17 b1000000)]) (ob:=[(ex32 b1000000) = true]) (by kernel_rfl) (AllP.cons hc5 AllP.nil) (To.thenN (Wp.seq (rg [0,1,5,6,7,8] [5,6,4300,4360,1000000] [(0,.own 1000000 0),(1,vi v1),(5,.own 5 0),(6,.own 6 0),(7,.fn 72 [.own 6 0,.own 5 0]),(ex64 b1000000)] [(5,56,[.row 4300]),(6,75,[.row 4360]),(4300,91,[rc16 b5]),(4360,5,[rc4 b6]),(ex22 b1000000)] (To.thenN (Wp.seq (Wp.seq (rg [0,1,5,6,7,8,63] [5,6,4300,4360,1000000] [(0,.own 1000000 0),(1,vi v1),(5,.own 5 0),(6,.own 6 0),(7,.fn 72 [.own 6 0,.own 5 0]),(ex64 b1000000),(63,vb (ex67 b1000000))] [(5,56,[.row 4300]),(6,75,[.row 4360]),(4300,91,[rc16 b5]),(4360,5,[rc4 b6]),(ex22 b1000000)] (To.thenN (cn h (fun h=>?_) (fun h=>?_))))))))))
    ·refine Wp.seq ?_
     obtain ⟨hc3,h⟩:=chk_of h
     refine rr [] [(2,rs19 ([(ex23 b1000000)])),(3,rs19 (b6 ++ (ex63 b1000000)))] [] [0,1,5,6,7] [5,6,67,4300,1000000] [(0,.own 1000000 0),(1,vi v1),(5,.own 5 0),(6,.own 6 0),(7,.fn 72 [.own 6 0,.own 5 0])] [(5,56,[.row 4300]),(6,75,[.row 67]),(67,5,[rc4 (b6 ++ (ex63 b1000000))]),(4300,91,[rc16 b5]),(ex22 b1000000)] [(ex66 b1000000),_,(AppOb 0 e8 b6 (List.flatMap e8 (ex63 b1000000)) (List.length (ex63 b1000000)) (rs19 (b6 ++ (ex63 b1000000))) ∧ GoodR (rs19 (b6 ++ (ex63 b1000000))))] (AllP.cons (mkOb (All8.cells (ns:=[((ex23 b1000000).toNat:Int)]) (.cons rfl .nil)) rfl rfl (good8 _)) (AllP.cons hc3 (AllP.cons (appOb rfl rfl (good8 _)) AllP.nil))) (To.thenN (Wp.goto (To.thenG (nt [0,1,5,6,7] [5,6,67,4300,1000000] [(67,4360)] [0,1,5,6,7] [5,6,4300,4360,1000000] [(0,.own 1000000 0),(1,vi v1),(5,.own 5 0),(6,.own 6 0),(7,.fn 72 [.own 6 0,.own 5 0])] [(5,56,[.row 4300]),(6,75,[.row 4360]),(4300,91,[rc16 b5]),(4360,5,[rc4 (b6 ++ (ex63 b1000000))]),(ex22 b1000000)] (To.goto (rest:=cG 0 (cB (cF Tryz.f50))) (by kernel_rfl) ?_)))))
     exact ih.2 v1 b5 (b6 ++ (ex63 b1000000)) (ex24 b1000000) _ h hQ
    ·refine Wp.skip (To.thenN (Wp.seq ?_))
     obtain ⟨o4,ho4,h⟩:=bind_of h
     refine kw [0,1,5,6,7,8] [5,6,4300,4360,1000000] [(0,.own 1000000 0),(1,vi v1),(5,.own 5 0),(6,.own 6 0),(7,.fn 72 [.own 6 0,.own 5 0]),(ex64 b1000000)] [(5,56,[.row 4300]),(6,75,[.row 4360]),(4300,91,[rc16 b5]),(4360,5,[rc4 b6]),(ex22 b1000000)] (ok_tmpl_reader_parts__o0_j3 R_tmpl_reader_parts__o0 hR_tmpl_reader_parts__o0 n v1 ((ex23 b1000000).toNat:Int) b5 b6 (ex24 b1000000) o4 ho4 (To.thenN (Wp.goto (kt [0,1,5,6,7] [5,6,4300,4360,1000000] [(0,.own 1000000 0),(1,vi v1),(5,.own 5 0),(6,.own 6 0),(7,.fn 72 [.own 6 0,.own 5 0])] [(5,56,[.row 4300]),(6,75,[.row 4360]),(4300,91,[rc16 o4.1]),(4360,5,[rc4 o4.2.1]),(1000000,88,qc17 o4.2.2)] (To.goto (rest:=cG 0 (cB (cF Tryz.f50))) (by kernel_rfl) ?_)))))
     exact ih.2 v1 o4.1 o4.2.1 o4.2.2 _ h hQ
def tmpl_reader_parts__o0_b (R_tmpl_reader_parts__o0:Int → S_tmpl_reader → Option ((List (S_tmpl_Part)) × S_tmpl_reader)) (n:Nat) (a1:Int) (h0:S_tmpl_reader):Option ((List (S_tmpl_Part)) × S_tmpl_reader) :=
 (tmpl_reader_parts__o0_g1_e R_tmpl_reader_parts__o0 n n a1 h0).bind fun o1 =>
 some (o1.1,o1.2)
abbrev rc20 (l:List (S_tmpl_Part)):D:=.rowc true (α:=S_tmpl_Part) zx2 E_tmpl_Part l
theorem ok_tmpl_reader_parts__o0_b (R_tmpl_reader_parts__o0:Int → S_tmpl_reader → Option ((List (S_tmpl_Part)) × S_tmpl_reader)) (hR_tmpl_reader_parts__o0:hR18 R_tmpl_reader_parts__o0) (n:Nat) (a1:Int) (h0:S_tmpl_reader) (r:(List (S_tmpl_Part)) × S_tmpl_reader) (h:tmpl_reader_parts__o0_b R_tmpl_reader_parts__o0 n a1 h0 = some r):CallsB Tryz.prog 50 [.own 1000000 0,vi a1] [(1000000,88,qc17 h0)] (rs3 r.1) [(1000000,88,qc17 r.2)]:=by
 unfold tmpl_reader_parts__o0_b at h
 refine bo Tryz.f50 rfl fun F0 w0=>?_
 refine Wp.seq (rg [0,1] [1000000] [(0,.own 1000000 0),(1,vi a1)] [(1000000,88,qc17 h0)] (To.thenN ?_))
 obtain ⟨o1,ho1,h⟩:=bind_of h
 refine kw [0,1] [1000000] [(0,.own 1000000 0),(1,vi a1)] [(1000000,88,qc17 h0)] (Wp.scopeG ((ok_tmpl_reader_parts__o0_g1 R_tmpl_reader_parts__o0 hR_tmpl_reader_parts__o0 n n).1 a1 h0 o1 ho1 (kt [4] [1004,1000000] [(4,.row 1004)] [(1004,91,[rc16 o1.1]),(1000000,88,qc17 o1.2)] (To.pre (St.settle (ks:=[1004]) (kk:=[4]) (kl:=[1004,1000000]) (K':=[(4,.row 1004)]) (L':=[(1004,91,[rc20 o1.1]),(1000000,88,qc17 o1.2)]) (by kernel_rfl)) (To.pre (St.sealK [4] (K':=[(4,rs3 o1.1)]) (by kernel_rfl)) ?_)))))
 cases h
 exact To.doneB hΓ [1000000] (by kernel_rfl) (by kernel_rfl)
def tmpl_reader_parts__o0:Nat → Int → S_tmpl_reader → Option ((List (S_tmpl_Part)) × S_tmpl_reader)
 | 0=>fun _ _=>none
 | n + 1=>tmpl_reader_parts__o0_b (tmpl_reader_parts__o0 n) n
theorem ok_tmpl_reader_parts__o0 (n:Nat):∀ (a1:Int) (h0:S_tmpl_reader) (r:(List (S_tmpl_Part)) × S_tmpl_reader),tmpl_reader_parts__o0 n a1 h0 = some r → CallsB Tryz.prog 50 [.own 1000000 0,vi a1] [(1000000,88,qc17 h0)] (rs3 r.1) [(1000000,88,qc17 r.2)]:=by
 induction n with
 | zero=>intro a1 h0 r h; cases h
 | succ n ih=>exact fun a1 h0 r h=>ok_tmpl_reader_parts__o0_b (tmpl_reader_parts__o0 n) ih n a1 h0 r h
def tmpl_Parse (n:Nat) (a0:List UInt8):Option ((List (S_tmpl_Part)) × Int) :=
 (tmpl_reader_parts__o0 n 1 (S_tmpl_reader.mk a0 0 0)).bind fun r1 =>
 if (r1.2.f_e != 0) = true then (some ([],r1.2.f_e))
 else (some (r1.1,0))
theorem ok_tmpl_Parse (n:Nat) (a0:List UInt8) (r:(List (S_tmpl_Part)) × Int) (h:tmpl_Parse n a0 = some r):CallsX Tryz.prog 30 [.str a0] (.tup [rs3 r.1,vi r.2]):=by
 unfold tmpl_Parse at h
 refine xo Tryz.f30 rfl fun F0 w0 _=>?_
 refine Wp.seq (rg [0] [] [(0,.str a0)] [] (To.thenN (Wp.seq (rg [4] [4] [(4,.own 4 0)] [(4,88,[.str a0,vi 0,vi 0])] (To.thenN (Wp.seq ?_))))))
 obtain ⟨r1,hr1,h⟩:=bind_of h
 refine rb [] 0 ⟨[(1000000,4)],[(1000000,4)],[.own 1000000 0,vi 1],[(1000000,88,[.str a0,vi 0,vi 0])],rs3 r1.1,[(1000000,88,qc17 r1.2)]⟩ [4,5] [4] [(4,.own 4 0),(5,rs3 r1.1)] [(4,88,qc17 r1.2)] ((ok_tmpl_reader_parts__o0 n 1 (S_tmpl_reader.mk a0 0 0) _ hr1)) (To.thenN (Wp.seq (Wp.seq (rg [4,5,11] [4] [(4,.own 4 0),(5,rs3 r1.1),(11,vb (r1.2.f_e != 0))] [(4,88,qc17 r1.2)] (To.thenN (cn h (fun h=>?_) (fun h=>?_)))))))
 ·refine Wp.seq (Wp.regionD hm hΓ [] [2,3] [] (K':=[(2,.val (.slice none 0 0)),(3,vi r1.2.f_e)]) (L':=[]) (ob:=[]) (by kernel_rfl) AllP.nil (To.thenN (Wp.ret (To.thenR (kt [2,3] [] [(2,.val (.slice none 0 0)),(3,vi r1.2.f_e)] [] (To.weak (K':=[(2,rs3 []),(3,vi r1.2.f_e)]) (L':=[]) (.cons (.zero _ _) (.cons (.refl _) .nil)) .nil ?_))))))
  cases h
  exact To.done hΓ (by kernel_rfl)
 ·refine Wp.skip (To.thenN (Wp.seq (rg [2,3] [] [(2,rs3 r1.1),(3,vi 0)] [] (To.thenN (Wp.ret ?_)))))
  cases h
  exact To.done hΓ (by kernel_rfl)
structure S_subst_fault where
 f_e:Int
 f_key:List UInt8
 f_why:List UInt8
structure S_subst_with where
 f_e:List (S_api_Var)
def env_Get_l1 (n:Nat) (v1:List UInt8) (v8:List (S_api_Var)) (v9:Int):Nat → Int → Option (Sum (Unit) ((List UInt8) × Bool))
 | 0,_=>none
 | k + 1,v10=>if (decide (v10 < v9)) = true then (if (decide (0 ≤ v10 ∧ v10 < (List.length v8:Int))) = true then (if ((((v8)[Int.toNat v10]?.getD (S_api_Var.mk [] [])).f_Key) == v1) = true then (some (.inr (((v8)[Int.toNat v10]?.getD (S_api_Var.mk [] [])).f_Val,true)))
 else (env_Get_l1 n v1 v8 v9 k (IntKind.wrap .i64 (v10 + 1)))) else none)
 else (some (.inl ()))
theorem ok_env_Get_l1 (n:Nat) (v1:List UInt8) (v8:List (S_api_Var)) (v9:Int) {F0:Fz} {w0:Pt Tryz.prog} {Q:Exit → Act → World → Prop} (k:Nat):∀ (v10:Int) (o:Sum (Unit) ((List UInt8) × Bool)),env_Get_l1 n v1 v8 v9 k v10 = some o → (Sum.elim (fun s=>To 21 F0 w0 [] [] (.exit 0) Q) (fun s=>To 21 F0 w0 [(4,.str s.1),(5,vb s.2)] [] .ret Q)) o → WL Tryz.prog 21 F0 w0 [(1,.str v1),(8,rs15 v8),(9,vi v9),(10,vi v10)] [] (cI (cI (cB (cA (cB (cF Tryz.f16)))))) Q:=by
 induction k with
 | zero=>intro v10 o h; cases h
 | succ k ih =>
  intro v10 o h hQ
  rw [env_Get_l1] at h
  refine WL.round (Wp.seq (rg [1,8,9,10,11] [] [(1,.str v1),(8,rs15 v8),(9,vi v9),(10,vi v10),(11,vb (decide (v10 < v9)))] [] (To.thenN (Wp.seq (cn h (fun h=>?_) (fun h=>?_))))))
  ·refine Wp.skip (To.thenN (Wp.seq (Wp.block (Wp.seq ?_))))
   obtain ⟨hc1,h⟩:=chk_of h
   refine r0 [1,7,8,9,10] [7] [(1,.str v1),(7,.own 7 0),(8,rs15 v8),(9,vi v9),(10,vi v10)] [(7,48,[.str ((ex13 v8 v10).f_Key),.str ((ex13 v8 v10).f_Val)])] (AllP.cons hc1 AllP.nil) (To.thenN (Wp.seq (rg [1,7,8,9,10,17] [7] [(1,.str v1),(7,.own 7 0),(8,rs15 v8),(9,vi v9),(10,vi v10),(17,vb (((ex13 v8 v10).f_Key) == v1))] [(7,48,[.str ((ex13 v8 v10).f_Key),.str ((ex13 v8 v10).f_Val)])] (To.thenN (cn h (fun h=>?_) (fun h=>?_))))))
   ·refine Wp.seq (rg [4,5] [] [(4,.str ((ex13 v8 v10).f_Val)),(5,vb true)] [] (To.thenN (Wp.ret (To.blockR (To.thenR (To.thenR ?_))))))
    cases h
    exact hQ
   ·refine Wp.skip (To.blockN (To.thenN (rg [1,8,9,10] [] [(1,.str v1),(8,rs15 v8),(9,vi v9),(10,vi (IntKind.wrap .i64 (v10 + 1)))] [] (kt [1,8,9,10] [] [(1,.str v1),(8,rs15 v8),(9,vi v9),(10,vi (IntKind.wrap .i64 (v10 + 1)))] [] (To.again ?_)))))
    exact ih (IntKind.wrap .i64 (v10 + 1)) _ h hQ
  ·refine Wp.exit (To.thenX (To.thenX (kt [] [] [] [] ?_)))
   cases h
   exact hQ
def env_Get (n:Nat) (a0:List (S_api_Var)) (a1:List UInt8):Option ((List UInt8) × Bool) :=
 (env_Get_l1 n a1 a0 (List.length a0:Int) n 0).bind fun o1 =>
 (Sum.elim (fun o1=>some ([],false)) (fun o1=>some (o1.1,o1.2))) o1
theorem ok_env_Get (n:Nat) (a0:List (S_api_Var)) (a1:List UInt8) (r:(List UInt8) × Bool) (h:env_Get n a0 a1 = some r):CallsX Tryz.prog 16 [rs15 a0,.str a1] (.tup [.str r.1,vb r.2]):=by
 unfold env_Get at h
 refine xo Tryz.f16 rfl fun F0 w0 _=>?_
 refine Wp.seq (rg [0,1] [] [(0,rs15 a0),(1,.str a1)] [] (To.thenN (Wp.seq (Wp.seq (rg [1,8,9,10] [] [(1,.str a1),(8,rs15 a0),(9,vi (List.length a0:Int)),(10,vi 0)] [] (To.thenN (Wp.block ?_)))))))
 obtain ⟨o1,ho1,h⟩:=bind_of h
 refine kw [1,8,9,10] [] [(1,.str a1),(8,rs15 a0),(9,vi (List.length a0:Int)),(10,vi 0)] [] (Wp.loopL (ok_env_Get_l1 n a1 a0 (List.length a0:Int) n 0 o1 ho1 ?_))
 rcases o1 with o1 | o1
 ·replace h:=sum_l h
  refine To.blockX (To.thenN (Wp.seq (rg [4,5] [] [(4,.str []),(5,vb false)] [] (To.thenN (Wp.ret ?_)))))
  cases h
  exact To.done hΓ (by kernel_rfl)
 ·replace h:=sum_r h
  refine To.blockR (To.thenR ?_)
  cases h
  exact To.done hΓ (by kernel_rfl)
def subst_with_part__o0_j2 (R_subst_with_parts__o0:(List (S_tmpl_Part)) → S_subst_with → Option ((List UInt8) × S_subst_with)) (n:Nat) (v5:List UInt8) (v6:Bool) (v7:Bool) (v29:Int) (v46:Bool) (b3:S_tmpl_Part) (b1000000:S_subst_with):Option (Bool) :=
 if v46 = true then some v46
 else (some (v29 == 5))
abbrev hR21 (R_subst_with_parts__o0:(List (S_tmpl_Part)) → S_subst_with → Option ((List UInt8) × S_subst_with)):Prop:=∀ (a1:List (S_tmpl_Part)) (h0:S_subst_with) (r:(List UInt8) × S_subst_with),R_subst_with_parts__o0 a1 h0 = some r → CallsB Tryz.prog 91 [.own 1000000 0,rs3 a1] [(1000000,134,[rs15 h0.f_e])] (.str r.1) [(1000000,134,[rs15 r.2.f_e])]
abbrev ex33 (x0:S_subst_with):Nat × Nat × List D:=(1000000,134,[rs15 x0.f_e])
theorem ok_subst_with_part__o0_j2 (R_subst_with_parts__o0:(List (S_tmpl_Part)) → S_subst_with → Option ((List UInt8) × S_subst_with)) (hR_subst_with_parts__o0:hR21 R_subst_with_parts__o0) (n:Nat) (v5:List UInt8) (v6:Bool) (v7:Bool) (v29:Int) (v46:Bool) (b3:S_tmpl_Part) (b1000000:S_subst_with) (o:Bool) (h:subst_with_part__o0_j2 R_subst_with_parts__o0 n v5 v6 v7 v29 v46 b3 b1000000 = some o) {F0:Fz} {w0:Pt Tryz.prog} {Q:Exit → Act → World → Prop} (hQ:To 86 F0 w0 [(0,.own 1000000 0),(3,.own 3 0),(5,.str v5),(6,vb v6),(7,vb v7),(29,vi v29),(46,vb o)] [(3,91,qc7 b3),(ex33 b1000000)] .normal Q):Wp Tryz.prog 86 F0 w0 [(0,.own 1000000 0),(3,.own 3 0),(5,.str v5),(6,vb v6),(7,vb v7),(29,vi v29),(46,vb v46)] [(3,91,qc7 b3),(ex33 b1000000)] (cB (cA (cE (cB (cE (cB (cI (cB (cA (cB (cB (cB (cB (cF Tryz.f123)))))))))))))) Q:=by
 unfold subst_with_part__o0_j2 at h
 refine cn h (fun h=>?_) (fun h=>?_)
 ·refine Wp.skip (kt [0,3,5,6,7,29,46] [3,1000000] [(0,.own 1000000 0),(3,.own 3 0),(5,.str v5),(6,vb v6),(7,vb v7),(29,vi v29),(46,vb v46)] [(3,91,qc7 b3),(ex33 b1000000)] ?_)
  cases h
  exact hQ
 ·refine rg [0,3,5,6,7,29,46] [3,1000000] [(0,.own 1000000 0),(3,.own 3 0),(5,.str v5),(6,vb v6),(7,vb v7),(29,vi v29),(46,vb (v29 == 5))] [(3,91,qc7 b3),(ex33 b1000000)] (kt [0,3,5,6,7,29,46] [3,1000000] [(0,.own 1000000 0),(3,.own 3 0),(5,.str v5),(6,vb v6),(7,vb v7),(29,vi v29),(46,vb (v29 == 5))] [(3,91,qc7 b3),(ex33 b1000000)] ?_)
  cases h
  exact hQ
def subst_with_part__o0_j3 (R_subst_with_parts__o0:(List (S_tmpl_Part)) → S_subst_with → Option ((List UInt8) × S_subst_with)) (n:Nat) (v5:List UInt8) (v6:Bool) (v7:Bool) (v29:Int) (v67:Bool) (b3:S_tmpl_Part) (b1000000:S_subst_with):Option (Bool) :=
 if v67 = true then some v67
 else (some (v29 == 7))
theorem ok_subst_with_part__o0_j3 (R_subst_with_parts__o0:(List (S_tmpl_Part)) → S_subst_with → Option ((List UInt8) × S_subst_with)) (hR_subst_with_parts__o0:hR21 R_subst_with_parts__o0) (n:Nat) (v5:List UInt8) (v6:Bool) (v7:Bool) (v29:Int) (v67:Bool) (b3:S_tmpl_Part) (b1000000:S_subst_with) (o:Bool) (h:subst_with_part__o0_j3 R_subst_with_parts__o0 n v5 v6 v7 v29 v67 b3 b1000000 = some o) {F0:Fz} {w0:Pt Tryz.prog} {Q:Exit → Act → World → Prop} (hQ:To 86 F0 w0 [(0,.own 1000000 0),(3,.own 3 0),(5,.str v5),(6,vb v6),(7,vb v7),(67,vb o)] [(3,91,qc7 b3),(ex33 b1000000)] .normal Q):Wp Tryz.prog 86 F0 w0 [(0,.own 1000000 0),(3,.own 3 0),(5,.str v5),(6,vb v6),(7,vb v7),(29,vi v29),(67,vb v67)] [(3,91,qc7 b3),(ex33 b1000000)] (cB (cA (cE (cB (cE (cB (cE (cB (cI (cB (cA (cB (cB (cB (cB (cF Tryz.f123)))))))))))))))) Q:=by
 unfold subst_with_part__o0_j3 at h
 refine cn h (fun h=>?_) (fun h=>?_)
 ·refine Wp.skip (kt [0,3,5,6,7,67] [3,1000000] [(0,.own 1000000 0),(3,.own 3 0),(5,.str v5),(6,vb v6),(7,vb v7),(67,vb v67)] [(3,91,qc7 b3),(ex33 b1000000)] ?_)
  cases h
  exact hQ
 ·refine rg [0,3,5,6,7,67] [3,1000000] [(0,.own 1000000 0),(3,.own 3 0),(5,.str v5),(6,vb v6),(7,vb v7),(67,vb (v29 == 7))] [(3,91,qc7 b3),(ex33 b1000000)] (kt [0,3,5,6,7,67] [3,1000000] [(0,.own 1000000 0),(3,.own 3 0),(5,.str v5),(6,vb v6),(7,vb v7),(67,vb (v29 == 7))] [(3,91,qc7 b3),(ex33 b1000000)] ?_)
  cases h
  exact hQ
def subst_with_part__o0_j1 (R_subst_with_parts__o0:(List (S_tmpl_Part)) → S_subst_with → Option ((List UInt8) × S_subst_with)) (n:Nat) (v5:List UInt8) (v6:Bool) (v7:Bool) (v29:Int) (b3:S_tmpl_Part) (b1000000:S_subst_with):Option (Sum (S_subst_with) ((List UInt8) × S_subst_with)) :=
 if (v29 == 2) = true then (if (!v7) = true then ((R_subst_with_parts__o0 b3.f_Sub b1000000).bind fun r2 =>
 some (.inr (r2.1,r2.2)))
 else (some (.inl b1000000)))
 else (if (v29 == 3) = true then (if (!v6) = true then ((R_subst_with_parts__o0 b3.f_Sub b1000000).bind fun r3 =>
 some (.inr (r3.1,r3.2)))
 else (some (.inl b1000000)))
 else ((subst_with_part__o0_j2 R_subst_with_parts__o0 n v5 v6 v7 v29 (v29 == 4) b3 b1000000).bind fun o4 =>
 if o4 = true then (if (bif (!v6) then true else (bif (b3.f_Op == 4) then (!v7) else false)) = true then none
 else (some (.inl b1000000)))
 else ((subst_with_part__o0_j3 R_subst_with_parts__o0 n v5 v6 v7 v29 (v29 == 6) b3 b1000000).bind fun o5 =>
 if o5 = true then (if (bif (!v6) then true else (bif (b3.f_Op == 6) then (!v7) else false)) = true then (some (.inr ([],b1000000)))
 else ((R_subst_with_parts__o0 b3.f_Sub b1000000).bind fun r6 =>
 some (.inr (r6.1,r6.2))))
 else (some (.inl b1000000)))))
theorem ok_subst_with_part__o0_j1 (R_subst_with_parts__o0:(List (S_tmpl_Part)) → S_subst_with → Option ((List UInt8) × S_subst_with)) (hR_subst_with_parts__o0:hR21 R_subst_with_parts__o0) (n:Nat) (v5:List UInt8) (v6:Bool) (v7:Bool) (v29:Int) (b3:S_tmpl_Part) (b1000000:S_subst_with) (o:Sum (S_subst_with) ((List UInt8) × S_subst_with)) (h:subst_with_part__o0_j1 R_subst_with_parts__o0 n v5 v6 v7 v29 b3 b1000000 = some o) {F0:Fz} {w0:Pt Tryz.prog} {Q:Exit → Act → World → Prop} (hQ:(Sum.elim (fun s=>To 86 F0 w0 [(5,.str v5)] [(1000000,134,[rs15 s.f_e])] .normal Q) (fun s=>To 86 F0 w0 [(4,.str s.1)] [(1000000,134,[rs15 s.2.f_e])] .ret Q)) o):Wp Tryz.prog 86 F0 w0 [(0,.own 1000000 0),(3,.own 3 0),(5,.str v5),(6,vb v6),(7,vb v7),(29,vi v29)] [(3,91,qc7 b3),(ex33 b1000000)] (cB (cA (cB (cB (cB (cB (cF Tryz.f123))))))) Q:=by
 unfold subst_with_part__o0_j1 at h
 refine Wp.block (Wp.seq (rg [0,3,5,6,7,29,30] [3,1000000] [(0,.own 1000000 0),(3,.own 3 0),(5,.str v5),(6,vb v6),(7,vb v7),(29,vi v29),(30,vb (v29 == 2))] [(3,91,qc7 b3),(ex33 b1000000)] (To.thenN (cn h (fun h=>?_) (fun h=>?_)))))
 ·refine Wp.seq (rg [0,3,5,33] [3,1000000] [(0,.own 1000000 0),(3,.own 3 0),(5,.str v5),(33,vb (!v7))] [(3,91,qc7 b3),(ex33 b1000000)] (To.thenN (cn h (fun h=>?_) (fun h=>?_))))
  ·refine Wp.seq ?_
   obtain ⟨r2,hr2,h⟩:=bind_of h
   refine rb [] 3 ⟨[(1000000,1000000)],[(1000000,1000000)],[.own 1000000 0,rs3 b3.f_Sub],[(ex33 b1000000)],.str r2.1,[(1000000,134,[rs15 r2.2.f_e])]⟩ [4] [1000000] [(4,.str r2.1)] [(1000000,134,[rs15 r2.2.f_e])] ((hR_subst_with_parts__o0 b3.f_Sub b1000000 _ hr2)) (To.thenN (Wp.ret (To.blockR ?_)))
   cases h
   exact hQ
  ·refine Wp.skip (To.blockN (kt [5] [1000000] [(5,.str v5)] [(ex33 b1000000)] ?_))
   cases h
   exact hQ
 ·refine Wp.seq (rg [0,3,5,6,7,29,38] [3,1000000] [(0,.own 1000000 0),(3,.own 3 0),(5,.str v5),(6,vb v6),(7,vb v7),(29,vi v29),(38,vb (v29 == 3))] [(3,91,qc7 b3),(ex33 b1000000)] (To.thenN (cn h (fun h=>?_) (fun h=>?_))))
  ·refine Wp.seq (rg [0,3,5,41] [3,1000000] [(0,.own 1000000 0),(3,.own 3 0),(5,.str v5),(41,vb (!v6))] [(3,91,qc7 b3),(ex33 b1000000)] (To.thenN (cn h (fun h=>?_) (fun h=>?_))))
   ·refine Wp.seq ?_
    obtain ⟨r3,hr3,h⟩:=bind_of h
    refine rb [] 3 ⟨[(1000000,1000000)],[(1000000,1000000)],[.own 1000000 0,rs3 b3.f_Sub],[(ex33 b1000000)],.str r3.1,[(1000000,134,[rs15 r3.2.f_e])]⟩ [4] [1000000] [(4,.str r3.1)] [(1000000,134,[rs15 r3.2.f_e])] ((hR_subst_with_parts__o0 b3.f_Sub b1000000 _ hr3)) (To.thenN (Wp.ret (To.blockR ?_)))
    cases h
    exact hQ
   ·refine Wp.skip (To.blockN (kt [5] [1000000] [(5,.str v5)] [(ex33 b1000000)] ?_))
    cases h
    exact hQ
  ·refine Wp.seq (Wp.seq (rg [0,3,5,6,7,29,46] [3,1000000] [(0,.own 1000000 0),(3,.own 3 0),(5,.str v5),(6,vb v6),(7,vb v7),(29,vi v29),(46,vb (v29 == 4))] [(3,91,qc7 b3),(ex33 b1000000)] (To.thenN ?_)))
   obtain ⟨o4,ho4,h⟩:=bind_of h
   refine kw [0,3,5,6,7,29,46] [3,1000000] [(0,.own 1000000 0),(3,.own 3 0),(5,.str v5),(6,vb v6),(7,vb v7),(29,vi v29),(46,vb (v29 == 4))] [(3,91,qc7 b3),(ex33 b1000000)] (ok_subst_with_part__o0_j2 R_subst_with_parts__o0 hR_subst_with_parts__o0 n v5 v6 v7 v29 (v29 == 4) b3 b1000000 o4 ho4 (To.thenN (cn h (fun h=>?_) (fun h=>?_))))
   ·refine Wp.seq (rg [3,5,59] [3,1000000] [(3,.own 3 0),(5,.str v5),(59,vb (bif (!v6) then true else (bif (b3.f_Op == 4) then (!v7) else false)))] [(3,91,qc7 b3),(ex33 b1000000)] (To.thenN (cn h (fun h=>?_) (fun h=>?_))))
    ·cases h
    ·refine Wp.skip (To.blockN (kt [5] [1000000] [(5,.str v5)] [(ex33 b1000000)] ?_))
     cases h
     exact hQ
   ·refine Wp.seq (Wp.seq (rg [0,3,5,6,7,29,67] [3,1000000] [(0,.own 1000000 0),(3,.own 3 0),(5,.str v5),(6,vb v6),(7,vb v7),(29,vi v29),(67,vb (v29 == 6))] [(3,91,qc7 b3),(ex33 b1000000)] (To.thenN ?_)))
    obtain ⟨o5,ho5,h⟩:=bind_of h
    refine kw [0,3,5,6,7,29,67] [3,1000000] [(0,.own 1000000 0),(3,.own 3 0),(5,.str v5),(6,vb v6),(7,vb v7),(29,vi v29),(67,vb (v29 == 6))] [(3,91,qc7 b3),(ex33 b1000000)] (ok_subst_with_part__o0_j3 R_subst_with_parts__o0 hR_subst_with_parts__o0 n v5 v6 v7 v29 (v29 == 6) b3 b1000000 o5 ho5 (To.thenN (cn h (fun h=>?_) (fun h=>?_))))
    ·refine Wp.seq (Wp.seq (rg [0,3,80] [3,1000000] [(0,.own 1000000 0),(3,.own 3 0),(80,vb (bif (!v6) then true else (bif (b3.f_Op == 6) then (!v7) else false)))] [(3,91,qc7 b3),(ex33 b1000000)] (To.thenN (cn h (fun h=>?_) (fun h=>?_)))))
     ·refine Wp.seq (rg [4] [1000000] [(4,.str [])] [(ex33 b1000000)] (To.thenN (Wp.ret (To.thenR (To.blockR ?_)))))
      cases h
      exact hQ
     ·refine Wp.skip (To.thenN (Wp.seq ?_))
      obtain ⟨r6,hr6,h⟩:=bind_of h
      refine rb [] 3 ⟨[(1000000,1000000)],[(1000000,1000000)],[.own 1000000 0,rs3 b3.f_Sub],[(ex33 b1000000)],.str r6.1,[(1000000,134,[rs15 r6.2.f_e])]⟩ [4] [1000000] [(4,.str r6.1)] [(1000000,134,[rs15 r6.2.f_e])] ((hR_subst_with_parts__o0 b3.f_Sub b1000000 _ hr6)) (To.thenN (Wp.ret (To.blockR ?_)))
      cases h
      exact hQ
    ·refine Wp.skip (To.blockN (kt [5] [1000000] [(5,.str v5)] [(ex33 b1000000)] ?_))
     cases h
     exact hQ
def subst_with_part__o0 (R_subst_with_parts__o0:(List (S_tmpl_Part)) → S_subst_with → Option ((List UInt8) × S_subst_with)) (n:Nat) (a1:S_tmpl_Part) (h0:S_subst_with):Option ((List UInt8) × S_subst_with) :=
 if (a1.f_Op == 0) = true then (some (a1.f_Text,h0))
 else ((env_Get n h0.f_e a1.f_Name).bind fun r1 =>
 (subst_with_part__o0_j1 R_subst_with_parts__o0 n r1.1 r1.2 (bif r1.2 then (!(r1.1 == [])) else false) a1.f_Op a1 h0).bind fun o2 =>
 (Sum.elim (fun o2=>some (r1.1,o2)) (fun o2=>some (o2.1,o2.2))) o2)
theorem ok_subst_with_part__o0 (R_subst_with_parts__o0:(List (S_tmpl_Part)) → S_subst_with → Option ((List UInt8) × S_subst_with)) (hR_subst_with_parts__o0:hR21 R_subst_with_parts__o0) (n:Nat) (a1:S_tmpl_Part) (h0:S_subst_with) (r:(List UInt8) × S_subst_with) (h:subst_with_part__o0 R_subst_with_parts__o0 n a1 h0 = some r):CallsB Tryz.prog 123 [.own 1000000 0,.agg (qc7 a1)] [(1000000,134,[rs15 h0.f_e])] (.str r.1) [(1000000,134,[rs15 r.2.f_e])]:=by
 unfold subst_with_part__o0 at h
 refine bo Tryz.f123 rfl fun F0 w0=>?_
 refine Wp.seq (rg [0,3] [3,1000000] [(0,.own 1000000 0),(3,.own 3 0)] [(3,91,qc7 a1),(1000000,134,[rs15 h0.f_e])] (To.thenN (Wp.seq (Wp.seq (rg [0,3,10] [3,1000000] [(0,.own 1000000 0),(3,.own 3 0),(10,vb (a1.f_Op == 0))] [(3,91,qc7 a1),(1000000,134,[rs15 h0.f_e])] (To.thenN (cn h (fun h=>?_) (fun h=>?_))))))))
 ·refine Wp.seq (rg [4] [1000000] [(4,.str a1.f_Text)] [(1000000,134,[rs15 h0.f_e])] (To.thenN (Wp.ret (To.thenR ?_))))
  cases h
  exact To.doneB hΓ [1000000] (by kernel_rfl) (by kernel_rfl)
 ·refine Wp.skip (To.thenN (Wp.seq ?_))
  obtain ⟨r1,hr1,h⟩:=bind_of h
  refine Wp.regionD hm hΓ [(6,.tup [.str r1.1,vb r1.2])] [0,3,5,6] [3,1000000] (K':=[(0,.own 1000000 0),(3,.own 3 0),(5,.str r1.1),(6,vb r1.2)]) (L':=[(3,91,qc7 a1),(1000000,134,[rs15 h0.f_e])]) (ob:=[(true = true → CX Tryz.prog 16 [rs15 h0.f_e,.str a1.f_Name] (.tup [.str r1.1,vb r1.2]))]) (by kernel_rfl) (AllP.cons (fun _=>cx (ok_env_Get n h0.f_e a1.f_Name _ hr1)) AllP.nil) (To.thenN (Wp.seq (rg [0,3,5,6,7] [3,1000000] [(0,.own 1000000 0),(3,.own 3 0),(5,.str r1.1),(6,vb r1.2),(7,vb (bif r1.2 then (!(r1.1 == [])) else false))] [(3,91,qc7 a1),(1000000,134,[rs15 h0.f_e])] (To.thenN (Wp.seq (Wp.seq (rg [0,3,5,6,7,29] [3,1000000] [(0,.own 1000000 0),(3,.own 3 0),(5,.str r1.1),(6,vb r1.2),(7,vb (bif r1.2 then (!(r1.1 == [])) else false)),(29,vi a1.f_Op)] [(3,91,qc7 a1),(1000000,134,[rs15 h0.f_e])] (To.thenN ?_))))))))
  obtain ⟨o2,ho2,h⟩:=bind_of h
  refine kw [0,3,5,6,7,29] [3,1000000] [(0,.own 1000000 0),(3,.own 3 0),(5,.str r1.1),(6,vb r1.2),(7,vb (bif r1.2 then (!(r1.1 == [])) else false)),(29,vi a1.f_Op)] [(3,91,qc7 a1),(1000000,134,[rs15 h0.f_e])] (ok_subst_with_part__o0_j1 R_subst_with_parts__o0 hR_subst_with_parts__o0 n r1.1 r1.2 (bif r1.2 then (!(r1.1 == [])) else false) a1.f_Op a1 h0 o2 ho2 ?_)
  rcases o2 with o2 | o2
  ·replace h:=sum_l h
   refine To.thenN (Wp.seq (rg [4] [1000000] [(4,.str r1.1)] [(1000000,134,[rs15 o2.f_e])] (To.thenN (Wp.ret ?_))))
   cases h
   exact To.doneB hΓ [1000000] (by kernel_rfl) (by kernel_rfl)
  ·replace h:=sum_r h
   refine To.thenR ?_
   cases h
   exact To.doneB hΓ [1000000] (by kernel_rfl) (by kernel_rfl)
def subst_with_parts__o0_j2 (R_subst_with_parts__o0:(List (S_tmpl_Part)) → S_subst_with → Option ((List UInt8) × S_subst_with)) (n:Nat) (v5:List (UInt8)) (v8:List (S_tmpl_Part)) (v9:Int) (v10:Int) (b1000000:S_subst_with):Option ((List (UInt8)) × S_subst_with) :=
 if (decide (0 ≤ v10 ∧ v10 < (List.length v8:Int))) = true then ((subst_with_part__o0 R_subst_with_parts__o0 n ((v8)[Int.toNat v10]?.getD (S_tmpl_Part.mk [] [] 0 [])) b1000000).bind fun r1 =>
 if (decide ((List.length v5 + List.length r1.1) * (1 + 1) ≤ limit)) = true then (if (decide ((List.length (v5 ++ r1.1):Int) > 8192)) = true then none
 else (some ((v5 ++ r1.1),r1.2))) else none) else none
theorem ok_subst_with_parts__o0_j2 (R_subst_with_parts__o0:(List (S_tmpl_Part)) → S_subst_with → Option ((List UInt8) × S_subst_with)) (hR_subst_with_parts__o0:hR21 R_subst_with_parts__o0) (n:Nat) (v5:List (UInt8)) (v8:List (S_tmpl_Part)) (v9:Int) (v10:Int) (b1000000:S_subst_with) (o:(List (UInt8)) × S_subst_with) (h:subst_with_parts__o0_j2 R_subst_with_parts__o0 n v5 v8 v9 v10 b1000000 = some o) {F0:Fz} {w0:Pt Tryz.prog} {Q:Exit → Act → World → Prop} (hQ:To 27 F0 w0 [(0,.own 1000000 0),(5,.row 1005),(8,rs3 v8),(9,vi v9),(10,vi v10)] [(1005,5,[rc4 o.1]),(1000000,134,[rs15 o.2.f_e])] .normal Q):Wp Tryz.prog 27 F0 w0 [(0,.own 1000000 0),(5,.row 1005),(8,rs3 v8),(9,vi v9),(10,vi v10)] [(1005,5,[rc4 v5]),(ex33 b1000000)] (cA (cB (cB (cI (cI (cB (cA (cB (cB (cF Tryz.f91)))))))))) Q:=by
 unfold subst_with_parts__o0_j2 at h
 refine Wp.block (Wp.seq ?_)
 obtain ⟨hc3,h⟩:=chk_of h
 refine r0 [0,5,7,8,9,10] [7,1005,1000000] [(0,.own 1000000 0),(5,.row 1005),(7,.own 7 0),(8,rs3 v8),(9,vi v9),(10,vi v10)] [(7,91,[.str ((ex1 v8 v10).f_Name),.str ((ex1 v8 v10).f_Text),vi ((ex1 v8 v10).f_Op),tn5 ((ex1 v8 v10).f_Sub)]),(1005,5,[rc4 v5]),(ex33 b1000000)] (AllP.cons hc3 AllP.nil) (To.thenN (Wp.seq ?_))
 obtain ⟨r1,hr1,h⟩:=bind_of h
 obtain ⟨hc2,h⟩:=chk_of h
 refine rr [] [(4,rs19 (v5 ++ r1.1))] [(3,⟨[(1000000,1000000)],[(1000000,1000000)],[.own 1000000 0,.agg [.str ((ex1 v8 v10).f_Name),.str ((ex1 v8 v10).f_Text),vi ((ex1 v8 v10).f_Op),tn5 ((ex1 v8 v10).f_Sub)]],[(ex33 b1000000)],.str r1.1,[(1000000,134,[rs15 r1.2.f_e])]⟩)] [0,5,8,9,10] [18,1000000] [(0,.own 1000000 0),(5,.row 18),(8,rs3 v8),(9,vi v9),(10,vi v10)] [(18,5,[rc4 (v5 ++ r1.1)]),(1000000,134,[rs15 r1.2.f_e])] [CbOb (CallsB Tryz.prog) 123 [.own 1000000 0,.agg [.str ((ex1 v8 v10).f_Name),.str ((ex1 v8 v10).f_Text),vi ((ex1 v8 v10).f_Op),tn5 ((ex1 v8 v10).f_Sub)]] [some (134,[rs15 b1000000.f_e])] ⟨[(1000000,1000000)],[(1000000,1000000)],[.own 1000000 0,.agg [.str ((ex1 v8 v10).f_Name),.str ((ex1 v8 v10).f_Text),vi ((ex1 v8 v10).f_Op),tn5 ((ex1 v8 v10).f_Sub)]],[(ex33 b1000000)],.str r1.1,[(1000000,134,[rs15 r1.2.f_e])]⟩,_,(AppOb 0 e8 v5 (List.map (fun b:UInt8=>D.val (.int .u8 (b.toNat:Int))) r1.1) (List.length r1.1) (rs19 (v5 ++ r1.1)) ∧ GoodR (rs19 (v5 ++ r1.1)))] (AllP.cons (⟨(ok_subst_with_part__o0 R_subst_with_parts__o0 hR_subst_with_parts__o0 n (ex1 v8 v10) b1000000 _ hr1),by kernel_rfl,by kernel_rfl⟩) (AllP.cons hc2 (AllP.cons (appOb (flat8 _) rfl (good8 _)) AllP.nil))) ?_
 refine To.thenN (Wp.seq (rg [0,5,8,9,10,21] [18,1000000] [(0,.own 1000000 0),(5,.row 18),(8,rs3 v8),(9,vi v9),(10,vi v10),(21,vb (decide ((List.length (v5 ++ r1.1):Int) > 8192)))] [(18,5,[rc4 (v5 ++ r1.1)]),(1000000,134,[rs15 r1.2.f_e])] (To.thenN (cn h (fun h=>?_) (fun h=>?_)))))
 ·cases h
 ·refine Wp.skip (To.blockN (nt [0,5,8,9,10] [18,1000000] [(18,1005)] [0,5,8,9,10] [1005,1000000] [(0,.own 1000000 0),(5,.row 1005),(8,rs3 v8),(9,vi v9),(10,vi v10)] [(1005,5,[rc4 (v5 ++ r1.1)]),(1000000,134,[rs15 r1.2.f_e])] ?_))
  cases h
  exact hQ
def subst_with_parts__o0_l1 (R_subst_with_parts__o0:(List (S_tmpl_Part)) → S_subst_with → Option ((List UInt8) × S_subst_with)) (n:Nat) (v8:List (S_tmpl_Part)) (v9:Int):Nat → (List (UInt8)) → Int → S_subst_with → Option ((List (UInt8)) × S_subst_with)
 | 0,_,_,_=>none
 | k + 1,v5,v10,b1000000=>if (decide (v10 < v9)) = true then ((subst_with_parts__o0_j2 R_subst_with_parts__o0 n v5 v8 v9 v10 b1000000).bind fun o1 =>
 subst_with_parts__o0_l1 R_subst_with_parts__o0 n v8 v9 k o1.1 (IntKind.wrap .i64 (v10 + 1)) o1.2)
 else (some (v5,b1000000))
theorem ok_subst_with_parts__o0_l1 (R_subst_with_parts__o0:(List (S_tmpl_Part)) → S_subst_with → Option ((List UInt8) × S_subst_with)) (hR_subst_with_parts__o0:hR21 R_subst_with_parts__o0) (n:Nat) (v8:List (S_tmpl_Part)) (v9:Int) {F0:Fz} {w0:Pt Tryz.prog} {Q:Exit → Act → World → Prop} (k:Nat):∀ (v5:List (UInt8)) (v10:Int) (b1000000:S_subst_with) (o:(List (UInt8)) × S_subst_with),subst_with_parts__o0_l1 R_subst_with_parts__o0 n v8 v9 k v5 v10 b1000000 = some o → To 27 F0 w0 [(5,.row 1005)] [(1005,5,[rc4 o.1]),(1000000,134,[rs15 o.2.f_e])] (.exit 0) Q → WL Tryz.prog 27 F0 w0 [(0,.own 1000000 0),(5,.row 1005),(8,rs3 v8),(9,vi v9),(10,vi v10)] [(1005,5,[rc4 v5]),(ex33 b1000000)] (cI (cI (cB (cA (cB (cB (cF Tryz.f91))))))) Q:=by
 induction k with
 | zero=>intro v5 v10 b1000000 o h; cases h
 | succ k ih =>
  intro v5 v10 b1000000 o h hQ
  rw [subst_with_parts__o0_l1] at h
  refine WL.round (Wp.seq (rg [0,5,8,9,10,11] [1005,1000000] [(0,.own 1000000 0),(5,.row 1005),(8,rs3 v8),(9,vi v9),(10,vi v10),(11,vb (decide (v10 < v9)))] [(1005,5,[rc4 v5]),(ex33 b1000000)] (To.thenN (Wp.seq (cn h (fun h=>?_) (fun h=>?_))))))
  ·refine Wp.skip (To.thenN (Wp.seq ?_))
   obtain ⟨o1,ho1,h⟩:=bind_of h
   refine kw [0,5,8,9,10] [1005,1000000] [(0,.own 1000000 0),(5,.row 1005),(8,rs3 v8),(9,vi v9),(10,vi v10)] [(1005,5,[rc4 v5]),(ex33 b1000000)] (ok_subst_with_parts__o0_j2 R_subst_with_parts__o0 hR_subst_with_parts__o0 n v5 v8 v9 v10 b1000000 o1 ho1 (To.thenN (rg [0,5,8,9,10] [1005,1000000] [(0,.own 1000000 0),(5,.row 1005),(8,rs3 v8),(9,vi v9),(10,vi (IntKind.wrap .i64 (v10 + 1)))] [(1005,5,[rc4 o1.1]),(1000000,134,[rs15 o1.2.f_e])] (kt [0,5,8,9,10] [1005,1000000] [(0,.own 1000000 0),(5,.row 1005),(8,rs3 v8),(9,vi v9),(10,vi (IntKind.wrap .i64 (v10 + 1)))] [(1005,5,[rc4 o1.1]),(1000000,134,[rs15 o1.2.f_e])] (To.again ?_)))))
   exact ih o1.1 (IntKind.wrap .i64 (v10 + 1)) o1.2 _ h hQ
  ·refine Wp.exit (To.thenX (To.thenX (kt [5] [1005,1000000] [(5,.row 1005)] [(1005,5,[rc4 v5]),(ex33 b1000000)] ?_)))
   cases h
   exact hQ
def subst_with_parts__o0_b (R_subst_with_parts__o0:(List (S_tmpl_Part)) → S_subst_with → Option ((List UInt8) × S_subst_with)) (n:Nat) (a1:List (S_tmpl_Part)) (h0:S_subst_with):Option ((List UInt8) × S_subst_with) :=
 (subst_with_parts__o0_l1 R_subst_with_parts__o0 n a1 (List.length a1:Int) n ([]:List (UInt8)) 0 h0).bind fun o1 =>
 some (o1.1,o1.2)
theorem ok_subst_with_parts__o0_b (R_subst_with_parts__o0:(List (S_tmpl_Part)) → S_subst_with → Option ((List UInt8) × S_subst_with)) (hR_subst_with_parts__o0:hR21 R_subst_with_parts__o0) (n:Nat) (a1:List (S_tmpl_Part)) (h0:S_subst_with) (r:(List UInt8) × S_subst_with) (h:subst_with_parts__o0_b R_subst_with_parts__o0 n a1 h0 = some r):CallsB Tryz.prog 91 [.own 1000000 0,rs3 a1] [(1000000,134,[rs15 h0.f_e])] (.str r.1) [(1000000,134,[rs15 r.2.f_e])]:=by
 unfold subst_with_parts__o0_b at h
 refine bo Tryz.f91 rfl fun F0 w0=>?_
 refine Wp.seq (rg [0,1] [1000000] [(0,.own 1000000 0),(1,rs3 a1)] [(1000000,134,[rs15 h0.f_e])] (To.thenN (Wp.seq (rg [0,1,5] [1000000] [(0,.own 1000000 0),(1,rs3 a1),(5,.val (.slice none 0 0))] [(1000000,134,[rs15 h0.f_e])] (To.thenN (Wp.seq (Wp.seq (rg [0,5,8,9,10] [1000000] [(0,.own 1000000 0),(5,.val (.slice none 0 0)),(8,rs3 a1),(9,vi (List.length a1:Int)),(10,vi 0)] [(1000000,134,[rs15 h0.f_e])] (To.thenN (Wp.block ?_))))))))))
 obtain ⟨o1,ho1,h⟩:=bind_of h
 refine kw [0,5,8,9,10] [1000000] [(0,.own 1000000 0),(5,.val (.slice none 0 0)),(8,rs3 a1),(9,vi (List.length a1:Int)),(10,vi 0)] [(1000000,134,[rs15 h0.f_e])] (Wp.pre (St.vacant (t:=5) (k:=1005) (e:=5) (K':=[(0,.own 1000000 0),(5,.row 1005),(8,rs3 a1),(9,vi (List.length a1:Int)),(10,vi 0)]) (good8 _) (by decide) (by kernel_rfl) (by kernel_rfl)) (kw [0,5,8,9,10] [1005,1000000] [(0,.own 1000000 0),(5,.row 1005),(8,rs3 a1),(9,vi (List.length a1:Int)),(10,vi 0)] [(1005,5,[rc4 []]),(1000000,134,[rs15 h0.f_e])] (Wp.loopL (ok_subst_with_parts__o0_l1 R_subst_with_parts__o0 hR_subst_with_parts__o0 n a1 (List.length a1:Int) n ([]:List (UInt8)) 0 h0 o1 ho1 (To.blockX (To.thenN (Wp.seq (rr [] [(1,.str o1.1)] [] [4] [1000000] [(4,.str o1.1)] [(1000000,134,[rs15 o1.2.f_e])] [(true = true → StrOb (List.flatMap e8 o1.1) (.str o1.1))] (AllP.cons (fun _=>strOb (flat8 _)) AllP.nil) (To.thenN (Wp.ret ?_))))))))))
 cases h
 exact To.doneB hΓ [1000000] (by kernel_rfl) (by kernel_rfl)
def subst_with_parts__o0:Nat → (List (S_tmpl_Part)) → S_subst_with → Option ((List UInt8) × S_subst_with)
 | 0=>fun _ _=>none
 | n + 1=>subst_with_parts__o0_b (subst_with_parts__o0 n) n
theorem ok_subst_with_parts__o0 (n:Nat):∀ (a1:List (S_tmpl_Part)) (h0:S_subst_with) (r:(List UInt8) × S_subst_with),subst_with_parts__o0 n a1 h0 = some r → CallsB Tryz.prog 91 [.own 1000000 0,rs3 a1] [(1000000,134,[rs15 h0.f_e])] (.str r.1) [(1000000,134,[rs15 r.2.f_e])]:=by
 induction n with
 | zero=>intro a1 h0 r h; cases h
 | succ n ih=>exact fun a1 h0 r h=>ok_subst_with_parts__o0_b (subst_with_parts__o0 n) ih n a1 h0 r h
end Go.Proofs.YtibgdilkodjojaaGreatDoor.M
