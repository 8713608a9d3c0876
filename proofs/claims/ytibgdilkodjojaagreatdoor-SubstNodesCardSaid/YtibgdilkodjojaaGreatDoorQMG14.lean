import Derived.Test.YtibgdilkodjojaaGreatDoorQMG14d
set_option linter.all false
namespace Go.Proofs.YtibgdilkodjojaaGreatDoor.M
open Go.RowKit Go.Proofs.YtibgdilkodjojaaGreatDoor.RX
set_option maxRecDepth 100000
theorem ok_tmpl_reader_parts_o__o0_g1 (n:Nat) {F0:Fz} {w0:Pt Tryz.prog} {Q:Exit → Act → World → Prop} (k:Nat):(∀ (v1:Int) (b1000000:S_tmpl_reader) (o:(List (S_tmpl_Part)) × S_tmpl_reader),tmpl_reader_parts_o__o0_g1_e n k v1 b1000000 = some o → To 128 F0 w0 [(4,.row 1004)] [(1004,91,[rc16 o.1]),(1000000,88,qc17 o.2)] .ret Q → WG Tryz.prog 128 F0 w0 [(0,.own 1000000 0),(1,vi v1)] [(1000000,88,qc17 b1000000)] (cI (cB (cF Tryz.f50))) (cI (cB (cF Tryz.f50))) Q) ∧
 (∀ (v1:Int) (b5:List (S_tmpl_Part)) (b6:List (UInt8)) (b1000000:S_tmpl_reader) (o:(List (S_tmpl_Part)) × S_tmpl_reader),tmpl_reader_parts_o__o0_g1_0 n k v1 b5 b6 b1000000 = some o → To 128 F0 w0 [(4,.row 1004)] [(1004,91,[rc16 o.1]),(1000000,88,qc17 o.2)] .ret Q → WG Tryz.prog 128 F0 w0 [(0,.own 1000000 0),(1,vi v1),(5,.own 5 0),(6,.own 6 0),(7,.fn 72 [.own 6 0,.own 5 0])] [(5,56,[.row 4300]),(6,75,[.row 4360]),(4300,91,[rc16 b5]),(4360,5,[rc4 b6]),(1000000,88,qc17 b1000000)] (cI (cB (cF Tryz.f50))) (cG 0 (cB (cF Tryz.f50))) Q):=by
 induction k with
 | zero=>exact ⟨(by intro v1 b1000000 o h; cases h),(by intro v1 b5 b6 b1000000 o h; cases h)⟩
 | succ k ih =>
  refine ⟨?_,?_⟩
  ·intro v1 b1000000 o h hQ
   rw [tmpl_reader_parts_o__o0_g1_e] at h
   refine WG.pass (Wp.seq (rg [0,1,5] [5,1000000] [(0,.own 1000000 0),(1,vi v1),(5,.own 5 0)] [(5,56,[.val (.slice none 0 0)]),(1000000,88,qc17 b1000000)] (To.thenN (Wp.seq (rg [0,1,5,6] [5,6,1000000] [(0,.own 1000000 0),(1,vi v1),(5,.own 5 0),(6,.own 6 0)] [(5,56,[.val (.slice none 0 0)]),(6,75,[.val (.slice none 0 0)]),(1000000,88,qc17 b1000000)] (To.thenN (Wp.seq (rg [0,1,5,6,7] [5,6,1000000] [(0,.own 1000000 0),(1,vi v1),(5,.own 5 0),(6,.own 6 0),(7,.fn 72 [.own 6 0,.own 5 0])] [(5,56,[.val (.slice none 0 0)]),(6,75,[.val (.slice none 0 0)]),(1000000,88,qc17 b1000000)] (To.thenN (Wp.seq ?_))))))))))
   refine kw [0,1,5,6,7] [5,6,1000000] [(0,.own 1000000 0),(1,vi v1),(5,.own 5 0),(6,.own 6 0),(7,.fn 72 [.own 6 0,.own 5 0])] [(5,56,[.val (.slice none 0 0)]),(6,75,[.val (.slice none 0 0)]),(1000000,88,qc17 b1000000)] (Wp.pre (St.vacantB 5 0 4300 91 (good_E_tmpl_Part _) (by decide) (by kernel_rfl) (L':=[(5,56,[.row 4300]),(6,75,[.val (.slice none 0 0)]),(1000000,88,qc17 b1000000)]) (by kernel_rfl)) (kw [0,1,5,6,7] [5,6,4300,1000000] [(0,.own 1000000 0),(1,vi v1),(5,.own 5 0),(6,.own 6 0),(7,.fn 72 [.own 6 0,.own 5 0])] [(5,56,[.row 4300]),(6,75,[.val (.slice none 0 0)]),(4300,91,[rc16 []]),(1000000,88,qc17 b1000000)] (Wp.pre (St.vacantB 6 0 4360 5 (good8 _) (by decide) (by kernel_rfl) (L':=[(5,56,[.row 4300]),(6,75,[.row 4360]),(4300,91,[rc16 []]),(1000000,88,qc17 b1000000)]) (by kernel_rfl)) (kw [0,1,5,6,7] [5,6,4300,4360,1000000] [(0,.own 1000000 0),(1,vi v1),(5,.own 5 0),(6,.own 6 0),(7,.fn 72 [.own 6 0,.own 5 0])] [(5,56,[.row 4300]),(6,75,[.row 4360]),(4300,91,[rc16 []]),(4360,5,[rc4 []]),(1000000,88,qc17 b1000000)] (Wp.label (To.thenN (Wp.seq (Wp.seq ?_))))))))
   obtain ⟨hc6,h⟩:=chk_of h
   obtain ⟨x1,hx1,h⟩:=lett_of h
   refine Wp.regionD hm hΓ [] [0,1,5,6,7,42] [5,6,4300,4360,1000000] (K':=[(0,.own 1000000 0),(1,vi v1),(5,.own 5 0),(6,.own 6 0),(7,.fn 72 [.own 6 0,.own 5 0]),(ex65 b1000000 v1)]) (L':=[(5,56,[.row 4300]),(6,75,[.row 4360]),(4300,91,[rc16 []]),(4360,5,[rc4 []]),(1000000,88,qc17 b1000000)]) (ob:=[(ex31 v1 b1000000) = true]) (by kernel_rfl) (AllP.cons hc6 AllP.nil) (To.eq (K':=[(0,.own 1000000 0),(1,vi v1),(5,.own 5 0),(6,.own 6 0),(7,.fn 72 [.own 6 0,.own 5 0]),(42,vb x1)]) (L':=[(5,56,[.row 4300]),(6,75,[.row 4360]),(4300,91,[rc16 []]),(4360,5,[rc4 []]),(1000000,88,qc17 b1000000)]) (by cases hx1; rfl) (by cases hx1; rfl) (To.thenN (cn h (fun h=>?_) (fun h=>?_))))
   ·refine Wp.seq ?_
    obtain ⟨r2,hr2,h⟩:=bind_of h
    refine rb [] 1 ⟨[(1000000,6),(1000001,5),(1010000,4360),(1010100,4300)],[(200,4360),(300,4300),(1000000,6),(1000001,5)],[.own 1000000 0,.own 1000001 0],[(1000000,75,[.row 1010000]),(1000001,56,[.row 1010100]),(1010000,5,[rc4 []]),(1010100,91,[rc16 []])],.tup [],[(200,5,[rc4 r2.1]),(300,91,[rc16 r2.2]),(1000000,75,[.row 200]),(1000001,56,[.row 300])]⟩ [5] [5,4300,1000000] [(5,.own 5 0)] [(5,56,[.row 4300]),(4300,91,[rc16 r2.2]),(1000000,88,qc17 b1000000)] ((ok_tmpl_reader_parts_1__o0__o1 n [] [] _ hr2)) (To.thenN (Wp.seq (rg [4] [4300,1000000] [(4,.row 4300)] [(4300,91,[rc16 r2.2]),(1000000,88,qc17 b1000000)] (To.thenN (Wp.ret (To.thenR (To.goesO (.inr (.inl rfl)) (nt [4] [4300,1000000] [(4300,1004)] [4] [1004,1000000] [(4,.row 1004)] [(1004,91,[rc16 r2.2]),(1000000,88,qc17 b1000000)] ?_))))))))
    cases h
    exact hQ
   ·refine Wp.skip (To.thenN (Wp.seq ?_))
    obtain ⟨hc5,h⟩:=chk_of h
    refine Wp.regionD hm hΓ [] [0,1,5,6,7,8] [5,6,4300,4360,1000000] (K':=[(0,.own 1000000 0),(1,vi v1),(5,.own 5 0),(6,.own 6 0),(7,.fn 72 [.own 6 0,.own 5 0]),(ex64 b1000000)]) (L':=[(5,56,[.row 4300]),(6,75,[.row 4360]),(4300,91,[rc16 []]),(4360,5,[rc4 []]),(1000000,88,qc17 b1000000)]) (ob:=[(ex32 b1000000) = true]) (by kernel_rfl) (AllP.cons hc5 AllP.nil) (To.thenN (Wp.seq (rg [0,1,5,6,7,8] [5,6,4300,4360,1000000] [(0,.own 1000000 0),(1,vi v1),(5,.own 5 0),(6,.own 6 0),(7,.fn 72 [.own 6 0,.own 5 0]),(ex64 b1000000)] [(5,56,[.row 4300]),(6,75,[.row 4360]),(4300,91,[rc16 []]),(4360,5,[rc4 []]),(ex22 b1000000)] (To.thenN (Wp.seq (Wp.seq (rg [0,1,5,6,7,8,63] [5,6,4300,4360,1000000] [(0,.own 1000000 0),(1,vi v1),(5,.own 5 0),(6,.own 6 0),(7,.fn 72 [.own 6 0,.own 5 0]),(ex64 b1000000),(63,vb (ex67 b1000000))] [(5,56,[.row 4300]),(6,75,[.row 4360]),(4300,91,[rc16 []]),(4360,5,[rc4 []]),(ex22 b1000000)] (To.thenN (cn h (fun h=>?_) (fun h=>?_))))))))))
    ·refine Wp.seq ?_
     obtain ⟨hc3,h⟩:=chk_of h
     refine rr [] [(2,rs19 ([(ex23 b1000000)])),(3,rs19 (ex73 b1000000))] [] [0,1,5,6,7] [5,6,67,4300,1000000] [(0,.own 1000000 0),(1,vi v1),(5,.own 5 0),(6,.own 6 0),(7,.fn 72 [.own 6 0,.own 5 0])] [(5,56,[.row 4300]),(6,75,[.row 67]),(67,5,[rc4 (ex73 b1000000)]),(4300,91,[rc16 []]),(ex22 b1000000)] [(ex66 b1000000),_,(AppOb 0 e8 ([]:List (UInt8)) (List.flatMap e8 (ex63 b1000000)) (List.length (ex63 b1000000)) (rs19 (ex73 b1000000)) ∧ GoodR (rs19 (ex73 b1000000)))] (AllP.cons (mkOb (All8.cells (ns:=[((ex23 b1000000).toNat:Int)]) (.cons rfl .nil)) rfl rfl (good8 _)) (AllP.cons hc3 (AllP.cons (appOb rfl rfl (good8 _)) AllP.nil))) (To.thenN (Wp.goto (To.thenG (nt [0,1,5,6,7] [5,6,67,4300,1000000] [(67,4360)] [0,1,5,6,7] [5,6,4300,4360,1000000] [(0,.own 1000000 0),(1,vi v1),(5,.own 5 0),(6,.own 6 0),(7,.fn 72 [.own 6 0,.own 5 0])] [(5,56,[.row 4300]),(6,75,[.row 4360]),(4300,91,[rc16 []]),(4360,5,[rc4 (ex73 b1000000)]),(ex22 b1000000)] (To.goto (rest:=cG 0 (cB (cF Tryz.f50))) (by kernel_rfl) ?_)))))
     exact ih.2 v1 [] (ex73 b1000000) (ex24 b1000000) _ h hQ
    ·refine Wp.skip (To.thenN (Wp.seq ?_))
     obtain ⟨o4,ho4,h⟩:=bind_of h
     refine kw [0,1,5,6,7,8] [5,6,4300,4360,1000000] [(0,.own 1000000 0),(1,vi v1),(5,.own 5 0),(6,.own 6 0),(7,.fn 72 [.own 6 0,.own 5 0]),(ex64 b1000000)] [(5,56,[.row 4300]),(6,75,[.row 4360]),(4300,91,[rc16 []]),(4360,5,[rc4 []]),(ex22 b1000000)] (ok_tmpl_reader_parts_o__o0_j2 n v1 ((ex23 b1000000).toNat:Int) [] [] (ex24 b1000000) o4 ho4 (To.thenN (Wp.goto (kt [0,1,5,6,7] [5,6,4300,4360,1000000] [(0,.own 1000000 0),(1,vi v1),(5,.own 5 0),(6,.own 6 0),(7,.fn 72 [.own 6 0,.own 5 0])] [(5,56,[.row 4300]),(6,75,[.row 4360]),(4300,91,[rc16 o4.1]),(4360,5,[rc4 o4.2.1]),(1000000,88,qc17 o4.2.2)] (To.goto (rest:=cG 0 (cB (cF Tryz.f50))) (by kernel_rfl) ?_)))))
     exact ih.2 v1 o4.1 o4.2.1 o4.2.2 _ h hQ
  ·intro v1 b5 b6 b1000000 o h hQ
   rw [tmpl_reader_parts_o__o0_g1_0] at h
   refine WG.pass (Wp.seq (Wp.skip (To.thenN (Wp.seq (Wp.seq ?_)))))
   obtain ⟨hc6,h⟩:=chk_of h
   obtain ⟨x1,hx1,h⟩:=lett_of h
   refine Wp.regionD hm hΓ [] [0,1,5,6,7,42] [5,6,4300,4360,1000000] (K':=[(0,.own 1000000 0),(1,vi v1),(5,.own 5 0),(6,.own 6 0),(7,.fn 72 [.own 6 0,.own 5 0]),(ex65 b1000000 v1)]) (L':=[(5,56,[.row 4300]),(6,75,[.row 4360]),(4300,91,[rc16 b5]),(4360,5,[rc4 b6]),(1000000,88,qc17 b1000000)]) (ob:=[(ex31 v1 b1000000) = true]) (by kernel_rfl) (AllP.cons hc6 AllP.nil) (To.eq (K':=[(0,.own 1000000 0),(1,vi v1),(5,.own 5 0),(6,.own 6 0),(7,.fn 72 [.own 6 0,.own 5 0]),(42,vb x1)]) (L':=[(5,56,[.row 4300]),(6,75,[.row 4360]),(4300,91,[rc16 b5]),(4360,5,[rc4 b6]),(1000000,88,qc17 b1000000)]) (by cases hx1; rfl) (by cases hx1; rfl) (To.thenN (cn h (fun h=>?_) (fun h=>?_))))
   ·refine Wp.seq ?_
    obtain ⟨r2,hr2,h⟩:=bind_of h
    refine rb [] 1 ⟨[(1000000,6),(1000001,5),(1010000,4360),(1010100,4300)],[(200,4360),(300,4300),(1000000,6),(1000001,5)],[.own 1000000 0,.own 1000001 0],[(1000000,75,[.row 1010000]),(1000001,56,[.row 1010100]),(1010000,5,[rc4 b6]),(1010100,91,[rc16 b5])],.tup [],[(200,5,[rc4 r2.1]),(300,91,[rc16 r2.2]),(1000000,75,[.row 200]),(1000001,56,[.row 300])]⟩ [5] [5,4300,1000000] [(5,.own 5 0)] [(5,56,[.row 4300]),(4300,91,[rc16 r2.2]),(1000000,88,qc17 b1000000)] ((ok_tmpl_reader_parts_1__o0__o1 n b6 b5 _ hr2)) (To.thenN (Wp.seq (rg [4] [4300,1000000] [(4,.row 4300)] [(4300,91,[rc16 r2.2]),(1000000,88,qc17 b1000000)] (To.thenN (Wp.ret (To.thenR (To.goesO (.inr (.inl rfl)) (nt [4] [4300,1000000] [(4300,1004)] [4] [1004,1000000] [(4,.row 1004)] [(1004,91,[rc16 r2.2]),(1000000,88,qc17 b1000000)] ?_))))))))
    cases h
    exact hQ
   ·refine Wp.skip (To.thenN (Wp.seq ?_))
    obtain ⟨hc5,h⟩:=chk_of h
    refine Wp.regionD hm hΓ [] [0,1,5,6,7,8] [5,6,4300,4360,1000000] (K':=[(0,.own 1000000 0),(1,vi v1),(5,.own 5 0),(6,.own 6 0),(7,.fn 72 [.own 6 0,.own 5 0]),(ex64 b1000000)]) (L':=[(5,56,[.row 4300]),(6,75,[.row 4360]),(4300,91,[rc16 b5]),(4360,5,[rc4 b6]),(1000000,88,qc17 b1000000)]) (ob:=[(ex32 b1000000) = true]) (by kernel_rfl) (AllP.cons hc5 AllP.nil) (To.thenN (Wp.seq (rg [0,1,5,6,7,8] [5,6,4300,4360,1000000] [(0,.own 1000000 0),(1,vi v1),(5,.own 5 0),(6,.own 6 0),(7,.fn 72 [.own 6 0,.own 5 0]),(ex64 b1000000)] [(5,56,[.row 4300]),(6,75,[.row 4360]),(4300,91,[rc16 b5]),(4360,5,[rc4 b6]),(ex22 b1000000)] (To.thenN (Wp.seq (Wp.seq (rg [0,1,5,6,7,8,63] [5,6,4300,4360,1000000] [(0,.own 1000000 0),(1,vi v1),(5,.own 5 0),(6,.own 6 0),(7,.fn 72 [.own 6 0,.own 5 0]),(ex64 b1000000),(63,vb (ex67 b1000000))] [(5,56,[.row 4300]),(6,75,[.row 4360]),(4300,91,[rc16 b5]),(4360,5,[rc4 b6]),(ex22 b1000000)] (To.thenN (cn h (fun h=>?_) (fun h=>?_))))))))))
    ·refine Wp.seq ?_
     obtain ⟨hc3,h⟩:=chk_of h
     refine rr [] [(2,rs19 ([(ex23 b1000000)])),(3,rs19 (b6 ++ (ex63 b1000000)))] [] [0,1,5,6,7] [5,6,67,4300,1000000] [(0,.own 1000000 0),(1,vi v1),(5,.own 5 0),(6,.own 6 0),(7,.fn 72 [.own 6 0,.own 5 0])] [(5,56,[.row 4300]),(6,75,[.row 67]),(67,5,[rc4 (b6 ++ (ex63 b1000000))]),(4300,91,[rc16 b5]),(ex22 b1000000)] [(ex66 b1000000),_,(AppOb 0 e8 b6 (List.flatMap e8 (ex63 b1000000)) (List.length (ex63 b1000000)) (rs19 (b6 ++ (ex63 b1000000))) ∧ GoodR (rs19 (b6 ++ (ex63 b1000000))))] (AllP.cons (mkOb (All8.cells (ns:=[((ex23 b1000000).toNat:Int)]) (.cons rfl .nil)) rfl rfl (good8 _)) (AllP.cons hc3 (AllP.cons (appOb rfl rfl (good8 _)) AllP.nil))) (To.thenN (Wp.goto (To.thenG (nt [0,1,5,6,7] [5,6,67,4300,1000000] [(67,4360)] [0,1,5,6,7] [5,6,4300,4360,1000000] [(0,.own 1000000 0),(1,vi v1),(5,.own 5 0),(6,.own 6 0),(7,.fn 72 [.own 6 0,.own 5 0])] [(5,56,[.row 4300]),(6,75,[.row 4360]),(4300,91,[rc16 b5]),(4360,5,[rc4 (b6 ++ (ex63 b1000000))]),(ex22 b1000000)] (To.goto (rest:=cG 0 (cB (cF Tryz.f50))) (by kernel_rfl) ?_)))))
     exact ih.2 v1 b5 (b6 ++ (ex63 b1000000)) (ex24 b1000000) _ h hQ
    ·refine Wp.skip (To.thenN (Wp.seq ?_))
     obtain ⟨o4,ho4,h⟩:=bind_of h
     refine kw [0,1,5,6,7,8] [5,6,4300,4360,1000000] [(0,.own 1000000 0),(1,vi v1),(5,.own 5 0),(6,.own 6 0),(7,.fn 72 [.own 6 0,.own 5 0]),(ex64 b1000000)] [(5,56,[.row 4300]),(6,75,[.row 4360]),(4300,91,[rc16 b5]),(4360,5,[rc4 b6]),(ex22 b1000000)] (ok_tmpl_reader_parts_o__o0_j3 n v1 ((ex23 b1000000).toNat:Int) b5 b6 (ex24 b1000000) o4 ho4 (To.thenN (Wp.goto (kt [0,1,5,6,7] [5,6,4300,4360,1000000] [(0,.own 1000000 0),(1,vi v1),(5,.own 5 0),(6,.own 6 0),(7,.fn 72 [.own 6 0,.own 5 0])] [(5,56,[.row 4300]),(6,75,[.row 4360]),(4300,91,[rc16 o4.1]),(4360,5,[rc4 o4.2.1]),(1000000,88,qc17 o4.2.2)] (To.goto (rest:=cG 0 (cB (cF Tryz.f50))) (by kernel_rfl) ?_)))))
     exact ih.2 v1 o4.1 o4.2.1 o4.2.2 _ h hQ
def tmpl_reader_parts_o__o0 (n:Nat) (a1:Int) (h0:S_tmpl_reader):Option ((List (S_tmpl_Part)) × S_tmpl_reader) :=
 (tmpl_reader_parts_o__o0_g1_e n n a1 h0).bind fun o1 =>
 some (o1.1,o1.2)
theorem ok_tmpl_reader_parts_o__o0 (n:Nat) (a1:Int) (h0:S_tmpl_reader) (r:(List (S_tmpl_Part)) × S_tmpl_reader) (h:tmpl_reader_parts_o__o0 n a1 h0 = some r):CallsB Tryz.prog 50 [.own 1000000 0,vi a1] [(1000000,88,qc17 h0)] (.row 1) [(1,91,[rc16 r.1]),(1000000,88,qc17 r.2)]:=by
 unfold tmpl_reader_parts_o__o0 at h
 refine bo Tryz.f50 rfl fun F0 w0=>?_
 refine Wp.seq (rg [0,1] [1000000] [(0,.own 1000000 0),(1,vi a1)] [(1000000,88,qc17 h0)] (To.thenN ?_))
 obtain ⟨o1,ho1,h⟩:=bind_of h
 refine kw [0,1] [1000000] [(0,.own 1000000 0),(1,vi a1)] [(1000000,88,qc17 h0)] (Wp.scopeG ((ok_tmpl_reader_parts_o__o0_g1 n n).1 a1 h0 o1 ho1 (kt [4] [1004,1000000] [(4,.row 1004)] [(1004,91,[rc16 o1.1]),(1000000,88,qc17 o1.2)] (To.pre (St.rename 1004 1 (by decide) (K':=[(4,.row 1)]) (L':=[(1,91,[rc16 o1.1]),(1000000,88,qc17 o1.2)]) (by kernel_rfl) (by kernel_rfl) (by kernel_rfl)) ?_))))
 cases h
 exact To.doneB hΓ [1,1000000] (by kernel_rfl) (by kernel_rfl)
def tmpl_Parse_o (n:Nat) (a0:List UInt8):Option ((List (S_tmpl_Part)) × Int) :=
 (tmpl_reader_parts_o__o0 n 1 (S_tmpl_reader.mk a0 0 0)).bind fun r1 =>
 if (r1.2.f_e != 0) = true then (some (([]:List (S_tmpl_Part)),r1.2.f_e))
 else (some (r1.1,0))
theorem ok_tmpl_Parse_o (n:Nat) (a0:List UInt8) (r:(List (S_tmpl_Part)) × Int) (h:tmpl_Parse_o n a0 = some r):CallsB Tryz.prog 30 [.str a0] [] (.tup [.row 1,vi r.2]) [(1,91,[rc16 r.1])]:=by
 unfold tmpl_Parse_o at h
 refine bo Tryz.f30 rfl fun F0 w0=>?_
 refine Wp.seq (rg [0] [] [(0,.str a0)] [] (To.thenN (Wp.seq (rg [4] [4] [(4,.own 4 0)] [(4,88,[.str a0,vi 0,vi 0])] (To.thenN (Wp.seq ?_))))))
 obtain ⟨r1,hr1,h⟩:=bind_of h
 refine rb [] 0 ⟨[(1000000,4)],[(1,8),(1000000,4)],[.own 1000000 0,vi 1],[(1000000,88,[.str a0,vi 0,vi 0])],.row 1,[(1,91,[rc16 r1.1]),(1000000,88,qc17 r1.2)]⟩ [4,5] [4,8] [(4,.own 4 0),(5,.row 8)] [(4,88,qc17 r1.2),(8,91,[rc16 r1.1])] ((ok_tmpl_reader_parts_o__o0 n 1 (S_tmpl_reader.mk a0 0 0) _ hr1)) (To.thenN (Wp.seq (Wp.seq (rg [4,5,11] [4,8] [(4,.own 4 0),(5,.row 8),(11,vb (r1.2.f_e != 0))] [(4,88,qc17 r1.2),(8,91,[rc16 r1.1])] (To.thenN (cn h (fun h=>?_) (fun h=>?_)))))))
 ·refine Wp.seq (Wp.regionD hm hΓ [] [2,3] [] (K':=[(2,.val (.slice none 0 0)),(3,vi r1.2.f_e)]) (L':=[]) (ob:=[]) (by kernel_rfl) AllP.nil (To.thenN (Wp.ret (To.thenR (kt [2,3] [] [(2,.val (.slice none 0 0)),(3,vi r1.2.f_e)] [] (To.pre (St.vacant (t:=2) (k:=1002) (e:=91) (K':=[(2,.row 1002),(3,vi r1.2.f_e)]) (good_E_tmpl_Part _) (by decide) (by kernel_rfl) (by kernel_rfl)) (kt [2,3] [1002] [(2,.row 1002),(3,vi r1.2.f_e)] [(1002,91,[rc16 []])] (To.pre (St.rename 1002 1 (by decide) (K':=[(2,.row 1),(3,vi r1.2.f_e)]) (L':=[(1,91,[rc16 []])]) (by kernel_rfl) (by kernel_rfl) (by kernel_rfl)) ?_))))))))
  cases h
  exact To.doneB hΓ [1] (by kernel_rfl) (by kernel_rfl)
 ·refine Wp.skip (To.thenN (Wp.seq (rg [2,3] [8] [(2,.row 8),(3,vi 0)] [(8,91,[rc16 r1.1])] (To.thenN (Wp.ret (nt [2,3] [8] [(8,1002)] [2,3] [1002] [(2,.row 1002),(3,vi 0)] [(1002,91,[rc16 r1.1])] (To.pre (St.rename 1002 1 (by decide) (K':=[(2,.row 1),(3,vi 0)]) (L':=[(1,91,[rc16 r1.1])]) (by kernel_rfl) (by kernel_rfl) (by kernel_rfl)) ?_)))))))
  cases h
  exact To.doneB hΓ [1] (by kernel_rfl) (by kernel_rfl)
def name_Sorted_o (n:Nat) (a0:List (List UInt8)):Option ((List (List UInt8))) :=
 if (decide ((List.length ([]:List (List UInt8)) + List.length a0) * (16 + 1) ≤ limit)) = true then (if (decide (List.length (([]:List (List UInt8)) ++ a0) * 17 ≤ limit)) = true then (if (decide (List.length (Sh.sort (([]:List (List UInt8)) ++ a0)) * 17 ≤ limit)) = true then (some (Lib.compact (Sh.sort (([]:List (List UInt8)) ++ a0)))) else none) else none) else none
abbrev ex45 (x0:List (List UInt8)):=(([]:List (List UInt8)) ++ x0)
abbrev ex70 (x0:List (List UInt8)):=(Lib.compact (Sh.sort (ex45 x0)))
theorem ok_name_Sorted_o (n:Nat) (a0:List (List UInt8)) (r:(List (List UInt8))) (h:name_Sorted_o n a0 = some r):CallsB Tryz.prog 32 [ls a0] [] (.row 1) [(1,9,[rc1 r])]:=by
 unfold name_Sorted_o at h
 refine bo Tryz.f32 rfl fun F0 w0=>?_
 refine Wp.seq (rg [0] [] [(0,ls a0)] [] (To.thenN (Wp.seq ?_)))
 obtain ⟨hc3,h⟩:=chk_of h
 refine rr [] [(0,ls []),(2,ls (ex45 a0))] [] [3] [6] [(3,.row 6)] [(6,9,[rc1 (ex45 a0)])] [(MkOb 1 [] 0 (ls []) ∧ GoodR (ls [])),_,(AppOb [] E_string ([]:List (List UInt8)) (List.flatMap E_string a0) (List.length a0) (ls (ex45 a0)) ∧ GoodR (ls (ex45 a0)))] (AllP.cons (mkOb (by kernel_rfl) rfl (by kernel_rfl) (good_E_string _)) (AllP.cons hc3 (AllP.cons (appOb rfl rfl (good_E_string _)) AllP.nil))) (To.thenN (Wp.seq ?_))
 obtain ⟨u1,h⟩:=chk_of h
 refine rb [] 1 ⟨[(1000000,6)],[(1000000,6)],[.row 1000000],[(1000000,9,[rc1 (ex45 a0)])],.tup [],[(1000000,9,[rc1 (Sh.sort (ex45 a0))])]⟩ [3] [6] [(3,.row 6)] [(6,9,[rc1 (Sh.sort (ex45 a0))])] (Sh.sort51 u1) (To.thenN (Wp.seq ?_))
 obtain ⟨u2,h⟩:=chk_of h
 refine rb [] 1 ⟨[(1000000,6)],[(1,10)],[.row 1000000],[(1000000,9,[rc1 (Sh.sort (ex45 a0))])],.row 1,[(1,9,[rc1 (ex70 a0)])]⟩ [2] [10] [(2,.row 10)] [(10,9,[rc1 (ex70 a0)])] (Sh.compact52 u2) (To.thenN (Wp.ret (nt [2] [10] [(10,1002)] [2] [1002] [(2,.row 1002)] [(1002,9,[rc1 (ex70 a0)])] (To.pre (St.rename 1002 1 (by decide) (K':=[(2,.row 1)]) (L':=[(1,9,[rc1 (ex70 a0)])]) (by kernel_rfl) (by kernel_rfl) (by kernel_rfl)) ?_))))
 cases h
 exact To.doneB hΓ [1] (by kernel_rfl) (by kernel_rfl)
def tmpl_Names_o_j3 (R_tmpl_Names_o:(List (S_tmpl_Part)) → Option ((List (List UInt8)))) (n:Nat) (v3:List (List UInt8)) (v6:List (S_tmpl_Part)) (v7:Int) (v8:Int) (v14:Bool) (b5:S_tmpl_Part):Option ((List (List UInt8))) :=
 if v14 = true then (if (decide ((List.length v3 + List.length ([b5.f_Name]:List (List UInt8))) * (16 + 1) ≤ limit)) = true then (some (v3 ++ ([b5.f_Name]:List (List UInt8)))) else none)
 else some v3
abbrev hR46 (R_tmpl_Names_o:(List (S_tmpl_Part)) → Option ((List (List UInt8)))):Prop:=∀ (a0:List (S_tmpl_Part)) (r:(List (List UInt8))),R_tmpl_Names_o a0 = some r → CallsB Tryz.prog 31 [rs3 a0] [] (.row 1) [(1,9,[rc1 r])]
abbrev ex46 (x0:S_tmpl_Part):=([x0.f_Name]:List (List UInt8))
theorem ok_tmpl_Names_o_j3 (R_tmpl_Names_o:(List (S_tmpl_Part)) → Option ((List (List UInt8)))) (hR_tmpl_Names_o:hR46 R_tmpl_Names_o) (n:Nat) (v3:List (List UInt8)) (v6:List (S_tmpl_Part)) (v7:Int) (v8:Int) (v14:Bool) (b5:S_tmpl_Part) (o:(List (List UInt8))) (h:tmpl_Names_o_j3 R_tmpl_Names_o n v3 v6 v7 v8 v14 b5 = some o) {F0:Fz} {w0:Pt Tryz.prog} {Q:Exit → Act → World → Prop} (hQ:To 28 F0 w0 [(3,.row 1003),(5,.own 5 0),(6,rs3 v6),(7,vi v7),(8,vi v8)] [(5,91,qc7 b5),(1003,9,[rc1 o])] .normal Q):Wp Tryz.prog 28 F0 w0 [(3,.row 1003),(5,.own 5 0),(6,rs3 v6),(7,vi v7),(8,vi v8),(14,vb v14)] [(5,91,qc7 b5),(1003,9,[rc1 v3])] (cB (cA (cB (cI (cA (cB (cB (cI (cI (cB (cA (cB (cB (cF Tryz.f31)))))))))))))) Q:=by
 unfold tmpl_Names_o_j3 at h
 refine cn h (fun h=>?_) (fun h=>?_)
 ·obtain ⟨hc1,h⟩:=chk_of h
  refine rr [] [(3,ls [b5.f_Name]),(4,ls (v3 ++ (ex46 b5)))] [] [3,5,6,7,8] [5,19] [(3,.row 19),(5,.own 5 0),(6,rs3 v6),(7,vi v7),(8,vi v8)] [(5,91,qc7 b5),(19,9,[rc1 (v3 ++ (ex46 b5))])] [(MkOb 1 [.str b5.f_Name] 1 (ls [b5.f_Name]) ∧ GoodR (ls [b5.f_Name])),_,(AppOb [] E_string v3 (List.flatMap E_string (ex46 b5)) (List.length (ex46 b5)) (ls (v3 ++ (ex46 b5))) ∧ GoodR (ls (v3 ++ (ex46 b5))))] (AllP.cons (mkOb (by kernel_rfl) rfl (by kernel_rfl) (good_E_string _)) (AllP.cons hc1 (AllP.cons (appOb rfl rfl (good_E_string _)) AllP.nil))) (nt [3,5,6,7,8] [5,19] [(19,1003)] [3,5,6,7,8] [5,1003] [(3,.row 1003),(5,.own 5 0),(6,rs3 v6),(7,vi v7),(8,vi v8)] [(5,91,qc7 b5),(1003,9,[rc1 (v3 ++ (ex46 b5))])] ?_)
  cases h
  exact hQ
 ·refine Wp.skip (kt [3,5,6,7,8] [5,1003] [(3,.row 1003),(5,.own 5 0),(6,rs3 v6),(7,vi v7),(8,vi v8)] [(5,91,qc7 b5),(1003,9,[rc1 v3])] ?_)
  cases h
  exact hQ
def tmpl_Names_o_j2 (R_tmpl_Names_o:(List (S_tmpl_Part)) → Option ((List (List UInt8)))) (n:Nat) (v3:List (List UInt8)) (v6:List (S_tmpl_Part)) (v7:Int) (v8:Int):Option ((List (List UInt8))) :=
 if (decide (0 ≤ v8 ∧ v8 < (List.length v6:Int))) = true then ((tmpl_Names_o_j3 R_tmpl_Names_o n v3 v6 v7 v8 ((((v6)[Int.toNat v8]?.getD (S_tmpl_Part.mk [] [] 0 [])).f_Op) != 0) ((v6)[Int.toNat v8]?.getD (S_tmpl_Part.mk [] [] 0 []))).bind fun o1 =>
 (R_tmpl_Names_o (((v6)[Int.toNat v8]?.getD (S_tmpl_Part.mk [] [] 0 [])).f_Sub)).bind fun r2 =>
 if (decide ((List.length o1 + List.length r2) * (16 + 1) ≤ limit)) = true then (some (o1 ++ r2)) else none) else none
theorem ok_tmpl_Names_o_j2 (R_tmpl_Names_o:(List (S_tmpl_Part)) → Option ((List (List UInt8)))) (hR_tmpl_Names_o:hR46 R_tmpl_Names_o) (n:Nat) (v3:List (List UInt8)) (v6:List (S_tmpl_Part)) (v7:Int) (v8:Int) (o:(List (List UInt8))) (h:tmpl_Names_o_j2 R_tmpl_Names_o n v3 v6 v7 v8 = some o) {F0:Fz} {w0:Pt Tryz.prog} {Q:Exit → Act → World → Prop} (hQ:To 28 F0 w0 [(3,.row 1003),(6,rs3 v6),(7,vi v7),(8,vi v8)] [(1003,9,[rc1 o])] .normal Q):Wp Tryz.prog 28 F0 w0 [(3,.row 1003),(6,rs3 v6),(7,vi v7),(8,vi v8)] [(1003,9,[rc1 v3])] (cA (cB (cB (cI (cI (cB (cA (cB (cB (cF Tryz.f31)))))))))) Q:=by
 unfold tmpl_Names_o_j2 at h
 refine Wp.block (Wp.seq ?_)
 obtain ⟨hc4,h⟩:=chk_of h
 refine r0 [3,5,6,7,8] [5,1003] [(3,.row 1003),(5,.own 5 0),(6,rs3 v6),(7,vi v7),(8,vi v8)] [(ex52 v6 v8),(1003,9,[rc1 v3])] (AllP.cons hc4 AllP.nil) (To.thenN (Wp.seq (Wp.seq (rg [3,5,6,7,8,14] [5,1003] [(3,.row 1003),(5,.own 5 0),(6,rs3 v6),(7,vi v7),(8,vi v8),(14,vb (((ex1 v6 v8).f_Op) != 0))] [(ex52 v6 v8),(1003,9,[rc1 v3])] (To.thenN ?_)))))
 obtain ⟨o1,ho1,h⟩:=bind_of h
 refine kw [3,5,6,7,8,14] [5,1003] [(3,.row 1003),(5,.own 5 0),(6,rs3 v6),(7,vi v7),(8,vi v8),(14,vb (((ex1 v6 v8).f_Op) != 0))] [(ex52 v6 v8),(1003,9,[rc1 v3])] (ok_tmpl_Names_o_j3 R_tmpl_Names_o hR_tmpl_Names_o n v3 v6 v7 v8 (((ex1 v6 v8).f_Op) != 0) (ex1 v6 v8) o1 ho1 (To.thenN ?_))
 obtain ⟨r2,hr2,h⟩:=bind_of h
 obtain ⟨hc3,h⟩:=chk_of h
 refine rr [] [(4,ls (o1 ++ r2))] [(3,⟨[],[(1,23)],[rs3 ((ex1 v6 v8).f_Sub)],[],.row 1,[(1,9,[rc1 r2])]⟩)] [3,6,7,8] [24] [(3,.row 24),(6,rs3 v6),(7,vi v7),(8,vi v8)] [(24,9,[rc1 (o1 ++ r2)])] [CbOb (CallsB Tryz.prog) 31 [rs3 ((ex1 v6 v8).f_Sub)] [] ⟨[],[(1,23)],[rs3 ((ex1 v6 v8).f_Sub)],[],.row 1,[(1,9,[rc1 r2])]⟩,_,(AppOb [] E_string o1 (List.flatMap E_string r2) (List.length r2) (ls (o1 ++ r2)) ∧ GoodR (ls (o1 ++ r2)))] (AllP.cons (⟨(hR_tmpl_Names_o ((ex1 v6 v8).f_Sub) _ hr2),by kernel_rfl,by kernel_rfl⟩) (AllP.cons hc3 (AllP.cons (appOb rfl rfl (good_E_string _)) AllP.nil))) ?_
 refine To.blockN (nt [3,6,7,8] [24] [(24,1003)] [3,6,7,8] [1003] [(3,.row 1003),(6,rs3 v6),(7,vi v7),(8,vi v8)] [(1003,9,[rc1 (o1 ++ r2)])] ?_)
 cases h
 exact hQ
def tmpl_Names_o_l1 (R_tmpl_Names_o:(List (S_tmpl_Part)) → Option ((List (List UInt8)))) (n:Nat) (v6:List (S_tmpl_Part)) (v7:Int):Nat → (List (List UInt8)) → Int → Option ((List (List UInt8)))
 | 0,_,_=>none
 | k + 1,v3,v8=>if (decide (v8 < v7)) = true then ((tmpl_Names_o_j2 R_tmpl_Names_o n v3 v6 v7 v8).bind fun o1 =>
 tmpl_Names_o_l1 R_tmpl_Names_o n v6 v7 k o1 (IntKind.wrap .i64 (v8 + 1)))
 else some v3
theorem ok_tmpl_Names_o_l1 (R_tmpl_Names_o:(List (S_tmpl_Part)) → Option ((List (List UInt8)))) (hR_tmpl_Names_o:hR46 R_tmpl_Names_o) (n:Nat) (v6:List (S_tmpl_Part)) (v7:Int) {F0:Fz} {w0:Pt Tryz.prog} {Q:Exit → Act → World → Prop} (k:Nat):∀ (v3:List (List UInt8)) (v8:Int) (o:(List (List UInt8))),tmpl_Names_o_l1 R_tmpl_Names_o n v6 v7 k v3 v8 = some o → To 28 F0 w0 [(3,.row 1003)] [(1003,9,[rc1 o])] (.exit 0) Q → WL Tryz.prog 28 F0 w0 [(3,.row 1003),(6,rs3 v6),(7,vi v7),(8,vi v8)] [(1003,9,[rc1 v3])] (cI (cI (cB (cA (cB (cB (cF Tryz.f31))))))) Q:=by
 induction k with
 | zero=>intro v3 v8 o h; cases h
 | succ k ih =>
  intro v3 v8 o h hQ
  rw [tmpl_Names_o_l1] at h
  refine WL.round (Wp.seq (rg [3,6,7,8,9] [1003] [(3,.row 1003),(6,rs3 v6),(7,vi v7),(8,vi v8),(9,vb (decide (v8 < v7)))] [(1003,9,[rc1 v3])] (To.thenN (Wp.seq (cn h (fun h=>?_) (fun h=>?_))))))
  ·refine Wp.skip (To.thenN (Wp.seq ?_))
   obtain ⟨o1,ho1,h⟩:=bind_of h
   refine kw [3,6,7,8] [1003] [(3,.row 1003),(6,rs3 v6),(7,vi v7),(8,vi v8)] [(1003,9,[rc1 v3])] (ok_tmpl_Names_o_j2 R_tmpl_Names_o hR_tmpl_Names_o n v3 v6 v7 v8 o1 ho1 (To.thenN (rg [3,6,7,8] [1003] [(3,.row 1003),(6,rs3 v6),(7,vi v7),(ex2 v8)] [(1003,9,[rc1 o1])] (kt [3,6,7,8] [1003] [(3,.row 1003),(6,rs3 v6),(7,vi v7),(ex2 v8)] [(1003,9,[rc1 o1])] (To.again ?_)))))
   exact ih o1 (IntKind.wrap .i64 (v8 + 1)) _ h hQ
  ·refine Wp.exit (To.thenX (To.thenX (kt [3] [1003] [(3,.row 1003)] [(1003,9,[rc1 v3])] ?_)))
   cases h
   exact hQ
def tmpl_Names_o_b (R_tmpl_Names_o:(List (S_tmpl_Part)) → Option ((List (List UInt8)))) (n:Nat) (a0:List (S_tmpl_Part)):Option ((List (List UInt8))) :=
 (tmpl_Names_o_l1 R_tmpl_Names_o n a0 (List.length a0:Int) n ([]:List (List UInt8)) 0).bind fun o1 =>
 (name_Sorted_o n o1).bind fun r2 =>
 some r2
theorem ok_tmpl_Names_o_b (R_tmpl_Names_o:(List (S_tmpl_Part)) → Option ((List (List UInt8)))) (hR_tmpl_Names_o:hR46 R_tmpl_Names_o) (n:Nat) (a0:List (S_tmpl_Part)) (r:(List (List UInt8))) (h:tmpl_Names_o_b R_tmpl_Names_o n a0 = some r):CallsB Tryz.prog 31 [rs3 a0] [] (.row 1) [(1,9,[rc1 r])]:=by
 unfold tmpl_Names_o_b at h
 refine bo Tryz.f31 rfl fun F0 w0=>?_
 refine Wp.seq (rg [0] [] [(0,rs3 a0)] [] (To.thenN (Wp.seq (rg [0,3] [] [(0,rs3 a0),(3,.val (.slice none 0 0))] [] (To.thenN (Wp.seq (Wp.seq (rg [3,6,7,8] [] [(3,.val (.slice none 0 0)),(6,rs3 a0),(7,vi (List.length a0:Int)),(8,vi 0)] [] (To.thenN (Wp.block ?_))))))))))
 obtain ⟨o1,ho1,h⟩:=bind_of h
 refine kw [3,6,7,8] [] [(3,.val (.slice none 0 0)),(6,rs3 a0),(7,vi (List.length a0:Int)),(8,vi 0)] [] (Wp.pre (St.vacant (t:=3) (k:=1003) (e:=9) (K':=[(3,.row 1003),(6,rs3 a0),(7,vi (List.length a0:Int)),(8,vi 0)]) (good_E_string _) (by decide) (by kernel_rfl) (by kernel_rfl)) (kw [3,6,7,8] [1003] [(3,.row 1003),(6,rs3 a0),(7,vi (List.length a0:Int)),(8,vi 0)] [(1003,9,[rc1 []])] (Wp.loopL (ok_tmpl_Names_o_l1 R_tmpl_Names_o hR_tmpl_Names_o n a0 (List.length a0:Int) n ([]:List (List UInt8)) 0 o1 ho1 (To.blockX (To.thenN (Wp.seq ?_)))))))
 obtain ⟨r2,hr2,h⟩:=bind_of h
 refine rb [(1,[1003])] 1 ⟨[],[(1,27)],[ls o1],[],.row 1,[(1,9,[rc1 r2])]⟩ [2] [27] [(2,.row 27)] [(27,9,[rc1 r2])] ((ok_name_Sorted_o n o1 _ hr2)) (To.thenN (Wp.ret (nt [2] [27] [(27,1002)] [2] [1002] [(2,.row 1002)] [(1002,9,[rc1 r2])] (To.pre (St.rename 1002 1 (by decide) (K':=[(2,.row 1)]) (L':=[(1,9,[rc1 r2])]) (by kernel_rfl) (by kernel_rfl) (by kernel_rfl)) ?_))))
 cases h
 exact To.doneB hΓ [1] (by kernel_rfl) (by kernel_rfl)
def tmpl_Names_o:Nat → (List (S_tmpl_Part)) → Option ((List (List UInt8)))
 | 0=>fun _=>none
 | n + 1=>tmpl_Names_o_b (tmpl_Names_o n) n
theorem ok_tmpl_Names_o (n:Nat):∀ (a0:List (S_tmpl_Part)) (r:(List (List UInt8))),tmpl_Names_o n a0 = some r → CallsB Tryz.prog 31 [rs3 a0] [] (.row 1) [(1,9,[rc1 r])]:=by
 induction n with
 | zero=>intro a0 r h; cases h
 | succ n ih=>exact fun a0 r h=>ok_tmpl_Names_o_b (tmpl_Names_o n) ih n a0 r h
def subst_Names_o_j1 (R_subst_Names_o:S_api_Node → Option ((List (List UInt8)))) (n:Nat) (v10:Bool) (b1:S_api_Node):Option ((List (List UInt8))) :=
 if v10 = true then ((tmpl_Parse_o n b1.f_Text).bind fun r1 =>
 (tmpl_Names_o n r1.1).bind fun r2 =>
 some r2)
 else (some ([]:List (List UInt8)))
abbrev hR47 (R_subst_Names_o:S_api_Node → Option ((List (List UInt8)))):Prop:=∀ (a0:S_api_Node) (r:(List (List UInt8))),R_subst_Names_o a0 = some r → CallsB Tryz.prog 13 [.agg [vi a0.f_Kind,.str a0.f_Text,ls a0.f_Keys,tn10 a0.f_Kids]] [] (.row 1) [(1,9,[rc1 r])]
theorem ok_subst_Names_o_j1 (R_subst_Names_o:S_api_Node → Option ((List (List UInt8)))) (hR_subst_Names_o:hR47 R_subst_Names_o) (n:Nat) (v10:Bool) (b1:S_api_Node) (o:(List (List UInt8))) (h:subst_Names_o_j1 R_subst_Names_o n v10 b1 = some o) {F0:Fz} {w0:Pt Tryz.prog} {Q:Exit → Act → World → Prop} (hQ:To 33 F0 w0 [(1,.own 1 0),(3,.row 1003)] [(1,25,qc12 b1),(1003,9,[rc1 o])] .normal Q):Wp Tryz.prog 33 F0 w0 [(1,.own 1 0),(3,.val (.slice none 0 0)),(10,vb v10)] [(1,25,qc12 b1)] (cB (cA (cB (cB (cF Tryz.f13))))) Q:=by
 unfold subst_Names_o_j1 at h
 refine cn h (fun h=>?_) (fun h=>?_)
 ·refine Wp.seq ?_
  obtain ⟨r1,hr1,h⟩:=bind_of h
  refine rb [] 2 ⟨[],[(1,14)],[.str b1.f_Text],[],.tup [.row 1,vi r1.2],[(1,91,[rc16 r1.1])]⟩ [1,4] [1,14] [(1,.own 1 0),(4,.row 14)] [(1,25,qc12 b1),(14,91,[rc16 r1.1])] ((ok_tmpl_Parse_o n b1.f_Text _ hr1)) (To.thenN ?_)
  obtain ⟨r2,hr2,h⟩:=bind_of h
  refine rb [(1,[14])] 1 ⟨[],[(1,18)],[rs3 r1.1],[],.row 1,[(1,9,[rc1 r2])]⟩ [1,3] [1,18] [(1,.own 1 0),(3,.row 18)] [(1,25,qc12 b1),(18,9,[rc1 r2])] ((ok_tmpl_Names_o n r1.1 _ hr2)) (nt [1,3] [1,18] [(18,1003)] [1,3] [1,1003] [(1,.own 1 0),(3,.row 1003)] [(1,25,qc12 b1),(1003,9,[rc1 r2])] ?_)
  cases h
  exact hQ
 ·refine Wp.skip (kt [1,3] [1] [(1,.own 1 0),(3,.val (.slice none 0 0))] [(1,25,qc12 b1)] (To.pre (St.vacant (t:=3) (k:=1003) (e:=9) (K':=[(1,.own 1 0),(3,.row 1003)]) (good_E_string _) (by decide) (by kernel_rfl) (by kernel_rfl)) (kt [1,3] [1,1003] [(1,.own 1 0),(3,.row 1003)] [(1,25,qc12 b1),(1003,9,[rc1 []])] ?_)))
  cases h
  exact hQ
def subst_Names_o_l2 (R_subst_Names_o:S_api_Node → Option ((List (List UInt8)))) (n:Nat) (v20:List (S_api_Node)) (v21:Int):Nat → (List (List UInt8)) → Int → Option ((List (List UInt8)))
 | 0,_,_=>none
 | k + 1,v3,v22=>if (decide (v22 < v21)) = true then (if (decide (0 ≤ v22 ∧ v22 < (List.length v20:Int))) = true then ((R_subst_Names_o ((v20)[Int.toNat v22]?.getD (S_api_Node.mk 0 [] [] []))).bind fun r2 =>
 if (decide ((List.length v3 + List.length r2) * (16 + 1) ≤ limit)) = true then (subst_Names_o_l2 R_subst_Names_o n v20 v21 k (v3 ++ r2) (IntKind.wrap .i64 (v22 + 1))) else none) else none)
 else some v3
abbrev ex47 (x0:Int):Nat × D:=(22,vi (IntKind.wrap .i64 (x0 + 1)))
theorem ok_subst_Names_o_l2 (R_subst_Names_o:S_api_Node → Option ((List (List UInt8)))) (hR_subst_Names_o:hR47 R_subst_Names_o) (n:Nat) (v20:List (S_api_Node)) (v21:Int) {F0:Fz} {w0:Pt Tryz.prog} {Q:Exit → Act → World → Prop} (k:Nat):∀ (v3:List (List UInt8)) (v22:Int) (o:(List (List UInt8))),subst_Names_o_l2 R_subst_Names_o n v20 v21 k v3 v22 = some o → To 33 F0 w0 [(3,.row 1003)] [(1003,9,[rc1 o])] (.exit 0) Q → WL Tryz.prog 33 F0 w0 [(3,.row 1003),(20,rs26 v20),(21,vi v21),(22,vi v22)] [(1003,9,[rc1 v3])] (cI (cI (cB (cA (cB (cB (cB (cF Tryz.f13)))))))) Q:=by
 induction k with
 | zero=>intro v3 v22 o h; cases h
 | succ k ih =>
  intro v3 v22 o h hQ
  rw [subst_Names_o_l2] at h
  refine WL.round (Wp.seq (rg [3,20,21,22,23] [1003] [(3,.row 1003),(20,rs26 v20),(21,vi v21),(22,vi v22),(23,vb (decide (v22 < v21)))] [(1003,9,[rc1 v3])] (To.thenN (Wp.seq (cn h (fun h=>?_) (fun h=>?_))))))
  ·refine Wp.skip (To.thenN (Wp.seq (Wp.block (Wp.seq ?_))))
   obtain ⟨hc4,h⟩:=chk_of h
   refine r0 [3,7,20,21,22] [7,1003] [(3,.row 1003),(7,.own 7 0),(20,rs26 v20),(21,vi v21),(22,vi v22)] [(7,25,[vi ((ex35 v20 v22).f_Kind),.str ((ex35 v20 v22).f_Text),ls ((ex35 v20 v22).f_Keys),tn10 ((ex35 v20 v22).f_Kids)]),(1003,9,[rc1 v3])] (AllP.cons hc4 AllP.nil) (To.thenN ?_)
   obtain ⟨r2,hr2,h⟩:=bind_of h
   obtain ⟨hc3,h⟩:=chk_of h
   refine rr [] [(3,ls (v3 ++ r2))] [(2,⟨[],[(1,28)],[.agg [vi ((ex35 v20 v22).f_Kind),.str ((ex35 v20 v22).f_Text),ls ((ex35 v20 v22).f_Keys),tn10 ((ex35 v20 v22).f_Kids)]],[],.row 1,[(1,9,[rc1 r2])]⟩)] [3,20,21,22] [29] [(3,.row 29),(20,rs26 v20),(21,vi v21),(22,vi v22)] [(29,9,[rc1 (v3 ++ r2)])] [CbOb (CallsB Tryz.prog) 13 [.agg [vi ((ex35 v20 v22).f_Kind),.str ((ex35 v20 v22).f_Text),ls ((ex35 v20 v22).f_Keys),tn10 ((ex35 v20 v22).f_Kids)]] [] ⟨[],[(1,28)],[.agg [vi ((ex35 v20 v22).f_Kind),.str ((ex35 v20 v22).f_Text),ls ((ex35 v20 v22).f_Keys),tn10 ((ex35 v20 v22).f_Kids)]],[],.row 1,[(1,9,[rc1 r2])]⟩,_,(AppOb [] E_string v3 (List.flatMap E_string r2) (List.length r2) (ls (v3 ++ r2)) ∧ GoodR (ls (v3 ++ r2)))] (AllP.cons (⟨(hR_subst_Names_o (ex35 v20 v22) _ hr2),by kernel_rfl,by kernel_rfl⟩) (AllP.cons hc3 (AllP.cons (appOb rfl rfl (good_E_string _)) AllP.nil))) ?_
   refine To.blockN (To.thenN (rg [3,20,21,22] [29] [(3,.row 29),(20,rs26 v20),(21,vi v21),(ex47 v22)] [(29,9,[rc1 (v3 ++ r2)])] (nt [3,20,21,22] [29] [(29,1003)] [3,20,21,22] [1003] [(3,.row 1003),(20,rs26 v20),(21,vi v21),(ex47 v22)] [(1003,9,[rc1 (v3 ++ r2)])] (To.again ?_))))
   exact ih (v3 ++ r2) (IntKind.wrap .i64 (v22 + 1)) _ h hQ
  ·refine Wp.exit (To.thenX (To.thenX (kt [3] [1003] [(3,.row 1003)] [(1003,9,[rc1 v3])] ?_)))
   cases h
   exact hQ
def subst_Names_o_b (R_subst_Names_o:S_api_Node → Option ((List (List UInt8)))) (n:Nat) (a0:S_api_Node):Option ((List (List UInt8))) :=
 (subst_Names_o_j1 R_subst_Names_o n (a0.f_Kind == 1) a0).bind fun o1 =>
 (subst_Names_o_l2 R_subst_Names_o n a0.f_Kids (List.length a0.f_Kids:Int) n o1 0).bind fun o2 =>
 (name_Sorted_o n o2).bind fun r3 =>
 some r3
abbrev ex48 (x0:S_api_Node):Nat × D:=(21,vi (List.length x0.f_Kids:Int))
theorem ok_subst_Names_o_b (R_subst_Names_o:S_api_Node → Option ((List (List UInt8)))) (hR_subst_Names_o:hR47 R_subst_Names_o) (n:Nat) (a0:S_api_Node) (r:(List (List UInt8))) (h:subst_Names_o_b R_subst_Names_o n a0 = some r):CallsB Tryz.prog 13 [.agg (qc12 a0)] [] (.row 1) [(1,9,[rc1 r])]:=by
 unfold subst_Names_o_b at h
 refine bo Tryz.f13 rfl fun F0 w0=>?_
 refine Wp.seq (rg [1] [1] [(1,.own 1 0)] [(1,25,qc12 a0)] (To.thenN (Wp.seq (rg [1,3] [1] [(1,.own 1 0),(3,.val (.slice none 0 0))] [(1,25,qc12 a0)] (To.thenN (Wp.seq (Wp.seq (rg [1,3,10] [1] [(1,.own 1 0),(3,.val (.slice none 0 0)),(10,vb (a0.f_Kind == 1))] [(1,25,qc12 a0)] (To.thenN ?_)))))))))
 obtain ⟨o1,ho1,h⟩:=bind_of h
 refine kw [1,3,10] [1] [(1,.own 1 0),(3,.val (.slice none 0 0)),(10,vb (a0.f_Kind == 1))] [(1,25,qc12 a0)] (ok_subst_Names_o_j1 R_subst_Names_o hR_subst_Names_o n (a0.f_Kind == 1) a0 o1 ho1 (To.thenN (Wp.seq (Wp.seq (rg [3,20,21,22] [1003] [(3,.row 1003),(20,tn10 a0.f_Kids),(ex48 a0),(22,vi 0)] [(1003,9,[rc1 o1])] (To.thenN (Wp.block ?_)))))))
 obtain ⟨o2,ho2,h⟩:=bind_of h
 refine kw [3,20,21,22] [1003] [(3,.row 1003),(20,tn10 a0.f_Kids),(ex48 a0),(22,vi 0)] [(1003,9,[rc1 o1])] (Wp.weak (K':=[(3,.row 1003),(20,rs26 a0.f_Kids),(ex48 a0),(22,vi 0)]) (L':=[(1003,9,[rc1 o1])]) (.cons (.refl _) (.cons (.opn _ _ _ _) (.cons (.refl _) (.cons (.refl _) .nil)))) (.cons (.cons (.refl _) .nil) .nil) (Wp.loopL (ok_subst_Names_o_l2 R_subst_Names_o hR_subst_Names_o n a0.f_Kids (List.length a0.f_Kids:Int) n o1 0 o2 ho2 (To.blockX (To.thenN (Wp.seq ?_))))))
 obtain ⟨r3,hr3,h⟩:=bind_of h
 refine rb [(1,[1003])] 1 ⟨[],[(1,32)],[ls o2],[],.row 1,[(1,9,[rc1 r3])]⟩ [2] [32] [(2,.row 32)] [(32,9,[rc1 r3])] ((ok_name_Sorted_o n o2 _ hr3)) (To.thenN (Wp.ret (nt [2] [32] [(32,1002)] [2] [1002] [(2,.row 1002)] [(1002,9,[rc1 r3])] (To.pre (St.rename 1002 1 (by decide) (K':=[(2,.row 1)]) (L':=[(1,9,[rc1 r3])]) (by kernel_rfl) (by kernel_rfl) (by kernel_rfl)) ?_))))
 cases h
 exact To.doneB hΓ [1] (by kernel_rfl) (by kernel_rfl)
def subst_Names_o:Nat → S_api_Node → Option ((List (List UInt8)))
 | 0=>fun _=>none
 | n + 1=>subst_Names_o_b (subst_Names_o n) n
theorem ok_subst_Names_o (n:Nat):∀ (a0:S_api_Node) (r:(List (List UInt8))),subst_Names_o n a0 = some r → CallsB Tryz.prog 13 [.agg (qc12 a0)] [] (.row 1) [(1,9,[rc1 r])]:=by
 induction n with
 | zero=>intro a0 r h; cases h
 | succ n ih=>exact fun a0 r h=>ok_subst_Names_o_b (subst_Names_o n) ih n a0 r h
def subst_Names_j1 (R_subst_Names:S_api_Node → Option ((List (List UInt8)))) (n:Nat) (v10:Bool) (b1:S_api_Node):Option ((List (List UInt8))) :=
 if v10 = true then ((tmpl_Parse_o n b1.f_Text).bind fun r1 =>
 (tmpl_Names_o n r1.1).bind fun r2 =>
 some r2)
 else (some ([]:List (List UInt8)))
abbrev hR48 (R_subst_Names:S_api_Node → Option ((List (List UInt8)))):Prop:=∀ (a0:S_api_Node) (r:(List (List UInt8))),R_subst_Names a0 = some r → CallsX Tryz.prog 13 [.agg [vi a0.f_Kind,.str a0.f_Text,ls a0.f_Keys,tn10 a0.f_Kids]] (ls r)
theorem ok_subst_Names_j1 (R_subst_Names:S_api_Node → Option ((List (List UInt8)))) (hR_subst_Names:hR48 R_subst_Names) (n:Nat) (v10:Bool) (b1:S_api_Node) (o:(List (List UInt8))) (h:subst_Names_j1 R_subst_Names n v10 b1 = some o) {F0:Fz} {w0:Pt Tryz.prog} {Q:Exit → Act → World → Prop} (hQ:To 33 F0 w0 [(1,.own 1 0),(3,.row 1003)] [(1,25,qc12 b1),(1003,9,[rc1 o])] .normal Q):Wp Tryz.prog 33 F0 w0 [(1,.own 1 0),(3,.val (.slice none 0 0)),(10,vb v10)] [(1,25,qc12 b1)] (cB (cA (cB (cB (cF Tryz.f13))))) Q:=by
 unfold subst_Names_j1 at h
 refine cn h (fun h=>?_) (fun h=>?_)
 ·refine Wp.seq ?_
  obtain ⟨r1,hr1,h⟩:=bind_of h
  refine rb [] 2 ⟨[],[(1,14)],[.str b1.f_Text],[],.tup [.row 1,vi r1.2],[(1,91,[rc16 r1.1])]⟩ [1,4] [1,14] [(1,.own 1 0),(4,.row 14)] [(1,25,qc12 b1),(14,91,[rc16 r1.1])] ((ok_tmpl_Parse_o n b1.f_Text _ hr1)) (To.thenN ?_)
  obtain ⟨r2,hr2,h⟩:=bind_of h
  refine rb [(1,[14])] 1 ⟨[],[(1,18)],[rs3 r1.1],[],.row 1,[(1,9,[rc1 r2])]⟩ [1,3] [1,18] [(1,.own 1 0),(3,.row 18)] [(1,25,qc12 b1),(18,9,[rc1 r2])] ((ok_tmpl_Names_o n r1.1 _ hr2)) (nt [1,3] [1,18] [(18,1003)] [1,3] [1,1003] [(1,.own 1 0),(3,.row 1003)] [(1,25,qc12 b1),(1003,9,[rc1 r2])] ?_)
  cases h
  exact hQ
 ·refine Wp.skip (kt [1,3] [1] [(1,.own 1 0),(3,.val (.slice none 0 0))] [(1,25,qc12 b1)] (To.pre (St.vacant (t:=3) (k:=1003) (e:=9) (K':=[(1,.own 1 0),(3,.row 1003)]) (good_E_string _) (by decide) (by kernel_rfl) (by kernel_rfl)) (kt [1,3] [1,1003] [(1,.own 1 0),(3,.row 1003)] [(1,25,qc12 b1),(1003,9,[rc1 []])] ?_)))
  cases h
  exact hQ
def subst_Names_l2 (R_subst_Names:S_api_Node → Option ((List (List UInt8)))) (n:Nat) (v20:List (S_api_Node)) (v21:Int):Nat → (List (List UInt8)) → Int → Option ((List (List UInt8)))
 | 0,_,_=>none
 | k + 1,v3,v22=>if (decide (v22 < v21)) = true then (if (decide (0 ≤ v22 ∧ v22 < (List.length v20:Int))) = true then ((subst_Names_o n ((v20)[Int.toNat v22]?.getD (S_api_Node.mk 0 [] [] []))).bind fun r2 =>
 if (decide ((List.length v3 + List.length r2) * (16 + 1) ≤ limit)) = true then (subst_Names_l2 R_subst_Names n v20 v21 k (v3 ++ r2) (IntKind.wrap .i64 (v22 + 1))) else none) else none)
 else some v3
theorem ok_subst_Names_l2 (R_subst_Names:S_api_Node → Option ((List (List UInt8)))) (hR_subst_Names:hR48 R_subst_Names) (n:Nat) (v20:List (S_api_Node)) (v21:Int) {F0:Fz} {w0:Pt Tryz.prog} {Q:Exit → Act → World → Prop} (k:Nat):∀ (v3:List (List UInt8)) (v22:Int) (o:(List (List UInt8))),subst_Names_l2 R_subst_Names n v20 v21 k v3 v22 = some o → To 33 F0 w0 [(3,.row 1003)] [(1003,9,[rc1 o])] (.exit 0) Q → WL Tryz.prog 33 F0 w0 [(3,.row 1003),(20,rs26 v20),(21,vi v21),(22,vi v22)] [(1003,9,[rc1 v3])] (cI (cI (cB (cA (cB (cB (cB (cF Tryz.f13)))))))) Q:=by
 induction k with
 | zero=>intro v3 v22 o h; cases h
 | succ k ih =>
  intro v3 v22 o h hQ
  rw [subst_Names_l2] at h
  refine WL.round (Wp.seq (rg [3,20,21,22,23] [1003] [(3,.row 1003),(20,rs26 v20),(21,vi v21),(22,vi v22),(23,vb (decide (v22 < v21)))] [(1003,9,[rc1 v3])] (To.thenN (Wp.seq (cn h (fun h=>?_) (fun h=>?_))))))
  ·refine Wp.skip (To.thenN (Wp.seq (Wp.block (Wp.seq ?_))))
   obtain ⟨hc4,h⟩:=chk_of h
   refine r0 [3,7,20,21,22] [7,1003] [(3,.row 1003),(7,.own 7 0),(20,rs26 v20),(21,vi v21),(22,vi v22)] [(7,25,[vi ((ex35 v20 v22).f_Kind),.str ((ex35 v20 v22).f_Text),ls ((ex35 v20 v22).f_Keys),tn10 ((ex35 v20 v22).f_Kids)]),(1003,9,[rc1 v3])] (AllP.cons hc4 AllP.nil) (To.thenN ?_)
   obtain ⟨r2,hr2,h⟩:=bind_of h
   obtain ⟨hc3,h⟩:=chk_of h
   refine rr [] [(3,ls (v3 ++ r2))] [(2,⟨[],[(1,28)],[.agg [vi ((ex35 v20 v22).f_Kind),.str ((ex35 v20 v22).f_Text),ls ((ex35 v20 v22).f_Keys),tn10 ((ex35 v20 v22).f_Kids)]],[],.row 1,[(1,9,[rc1 r2])]⟩)] [3,20,21,22] [29] [(3,.row 29),(20,rs26 v20),(21,vi v21),(22,vi v22)] [(29,9,[rc1 (v3 ++ r2)])] [CbOb (CallsB Tryz.prog) 13 [.agg [vi ((ex35 v20 v22).f_Kind),.str ((ex35 v20 v22).f_Text),ls ((ex35 v20 v22).f_Keys),tn10 ((ex35 v20 v22).f_Kids)]] [] ⟨[],[(1,28)],[.agg [vi ((ex35 v20 v22).f_Kind),.str ((ex35 v20 v22).f_Text),ls ((ex35 v20 v22).f_Keys),tn10 ((ex35 v20 v22).f_Kids)]],[],.row 1,[(1,9,[rc1 r2])]⟩,_,(AppOb [] E_string v3 (List.flatMap E_string r2) (List.length r2) (ls (v3 ++ r2)) ∧ GoodR (ls (v3 ++ r2)))] (AllP.cons (⟨(ok_subst_Names_o n (ex35 v20 v22) _ hr2),by kernel_rfl,by kernel_rfl⟩) (AllP.cons hc3 (AllP.cons (appOb rfl rfl (good_E_string _)) AllP.nil))) ?_
   refine To.blockN (To.thenN (rg [3,20,21,22] [29] [(3,.row 29),(20,rs26 v20),(21,vi v21),(ex47 v22)] [(29,9,[rc1 (v3 ++ r2)])] (nt [3,20,21,22] [29] [(29,1003)] [3,20,21,22] [1003] [(3,.row 1003),(20,rs26 v20),(21,vi v21),(ex47 v22)] [(1003,9,[rc1 (v3 ++ r2)])] (To.again ?_))))
   exact ih (v3 ++ r2) (IntKind.wrap .i64 (v22 + 1)) _ h hQ
  ·refine Wp.exit (To.thenX (To.thenX (kt [3] [1003] [(3,.row 1003)] [(1003,9,[rc1 v3])] ?_)))
   cases h
   exact hQ
def subst_Names_b (R_subst_Names:S_api_Node → Option ((List (List UInt8)))) (n:Nat) (a0:S_api_Node):Option ((List (List UInt8))) :=
 (subst_Names_j1 R_subst_Names n (a0.f_Kind == 1) a0).bind fun o1 =>
 (subst_Names_l2 R_subst_Names n a0.f_Kids (List.length a0.f_Kids:Int) n o1 0).bind fun o2 =>
 (name_Sorted_o n o2).bind fun r3 =>
 some r3
theorem ok_subst_Names_b (R_subst_Names:S_api_Node → Option ((List (List UInt8)))) (hR_subst_Names:hR48 R_subst_Names) (n:Nat) (a0:S_api_Node) (r:(List (List UInt8))) (h:subst_Names_b R_subst_Names n a0 = some r):CallsX Tryz.prog 13 [.agg (qc12 a0)] (ls r):=by
 unfold subst_Names_b at h
 refine xo Tryz.f13 rfl fun F0 w0 _=>?_
 refine Wp.seq (rg [1] [1] [(1,.own 1 0)] [(1,25,qc12 a0)] (To.thenN (Wp.seq (rg [1,3] [1] [(1,.own 1 0),(3,.val (.slice none 0 0))] [(1,25,qc12 a0)] (To.thenN (Wp.seq (Wp.seq (rg [1,3,10] [1] [(1,.own 1 0),(3,.val (.slice none 0 0)),(10,vb (a0.f_Kind == 1))] [(1,25,qc12 a0)] (To.thenN ?_)))))))))
 obtain ⟨o1,ho1,h⟩:=bind_of h
 refine kw [1,3,10] [1] [(1,.own 1 0),(3,.val (.slice none 0 0)),(10,vb (a0.f_Kind == 1))] [(1,25,qc12 a0)] (ok_subst_Names_j1 R_subst_Names hR_subst_Names n (a0.f_Kind == 1) a0 o1 ho1 (To.thenN (Wp.seq (Wp.seq (rg [3,20,21,22] [1003] [(3,.row 1003),(20,tn10 a0.f_Kids),(ex48 a0),(22,vi 0)] [(1003,9,[rc1 o1])] (To.thenN (Wp.block ?_)))))))
 obtain ⟨o2,ho2,h⟩:=bind_of h
 refine kw [3,20,21,22] [1003] [(3,.row 1003),(20,tn10 a0.f_Kids),(ex48 a0),(22,vi 0)] [(1003,9,[rc1 o1])] (Wp.weak (K':=[(3,.row 1003),(20,rs26 a0.f_Kids),(ex48 a0),(22,vi 0)]) (L':=[(1003,9,[rc1 o1])]) (.cons (.refl _) (.cons (.opn _ _ _ _) (.cons (.refl _) (.cons (.refl _) .nil)))) (.cons (.cons (.refl _) .nil) .nil) (Wp.loopL (ok_subst_Names_l2 R_subst_Names hR_subst_Names n a0.f_Kids (List.length a0.f_Kids:Int) n o1 0 o2 ho2 (To.blockX (To.thenN (Wp.seq ?_))))))
 obtain ⟨r3,hr3,h⟩:=bind_of h
 refine rb [(1,[1003])] 1 ⟨[],[(1,32)],[ls o2],[],.row 1,[(1,9,[rc1 r3])]⟩ [2] [32] [(2,.row 32)] [(32,9,[rc1 r3])] ((ok_name_Sorted_o n o2 _ hr3)) (To.thenN (Wp.ret (To.pre (St.settle (ks:=[32]) (kk:=[2]) (kl:=[32]) (K':=[(2,.row 32)]) (L':=[(32,9,[rc8 r3])]) (by kernel_rfl)) (To.pre (St.sealK [2] (K':=[(2,ls r3)]) (by kernel_rfl)) ?_))))
 cases h
 exact To.done hΓ (by kernel_rfl)
def subst_Names:Nat → S_api_Node → Option ((List (List UInt8)))
 | 0=>fun _=>none
 | n + 1=>subst_Names_b (subst_Names n) n
theorem ok_subst_Names (n:Nat):∀ (a0:S_api_Node) (r:(List (List UInt8))),subst_Names n a0 = some r → CallsX Tryz.prog 13 [.agg (qc12 a0)] (ls r):=by
 induction n with
 | zero=>intro a0 r h; cases h
 | succ n ih=>exact fun a0 r h=>ok_subst_Names_b (subst_Names n) ih n a0 r h
def ref08_Texts_j1 (R_ref08_Texts:S_api_Node → Option ((List (List UInt8)))) (n:Nat) (v3:List (List UInt8)) (v10:Bool) (b1:S_api_Node):Option ((List (List UInt8))) :=
 if v10 = true then (if (decide ((List.length v3 + List.length ([b1.f_Text]:List (List UInt8))) * (16 + 1) ≤ limit)) = true then (some (v3 ++ ([b1.f_Text]:List (List UInt8)))) else none)
 else some v3
abbrev hR49 (R_ref08_Texts:S_api_Node → Option ((List (List UInt8)))):Prop:=∀ (a0:S_api_Node) (r:(List (List UInt8))),R_ref08_Texts a0 = some r → CallsX Tryz.prog 33 [.agg [vi a0.f_Kind,.str a0.f_Text,ls a0.f_Keys,tn10 a0.f_Kids]] (ls r)
abbrev ex49 (x0:S_api_Node):=([x0.f_Text]:List (List UInt8))
theorem ok_ref08_Texts_j1 (R_ref08_Texts:S_api_Node → Option ((List (List UInt8)))) (hR_ref08_Texts:hR49 R_ref08_Texts) (n:Nat) (v3:List (List UInt8)) (v10:Bool) (b1:S_api_Node) (o:(List (List UInt8))) (h:ref08_Texts_j1 R_ref08_Texts n v3 v10 b1 = some o) {F0:Fz} {w0:Pt Tryz.prog} {Q:Exit → Act → World → Prop} (hQ:To 43 F0 w0 [(1,.own 1 0),(3,.row 1003)] [(1,25,qc12 b1),(1003,9,[rc1 o])] .normal Q):Wp Tryz.prog 43 F0 w0 [(1,.own 1 0),(3,.row 1003),(10,vb v10)] [(1,25,qc12 b1),(1003,9,[rc1 v3])] (cB (cA (cB (cB (cF Tryz.f33))))) Q:=by
 unfold ref08_Texts_j1 at h
 refine cn h (fun h=>?_) (fun h=>?_)
 ·obtain ⟨hc1,h⟩:=chk_of h
  refine rr [] [(3,ls [b1.f_Text]),(4,ls (v3 ++ (ex49 b1)))] [] [1,3] [1,15] [(1,.own 1 0),(3,.row 15)] [(1,25,qc12 b1),(15,9,[rc1 (v3 ++ (ex49 b1))])] [(MkOb 1 [.str b1.f_Text] 1 (ls [b1.f_Text]) ∧ GoodR (ls [b1.f_Text])),_,(AppOb [] E_string v3 (List.flatMap E_string (ex49 b1)) (List.length (ex49 b1)) (ls (v3 ++ (ex49 b1))) ∧ GoodR (ls (v3 ++ (ex49 b1))))] (AllP.cons (mkOb (by kernel_rfl) rfl (by kernel_rfl) (good_E_string _)) (AllP.cons hc1 (AllP.cons (appOb rfl rfl (good_E_string _)) AllP.nil))) (nt [1,3] [1,15] [(15,1003)] [1,3] [1,1003] [(1,.own 1 0),(3,.row 1003)] [(1,25,qc12 b1),(1003,9,[rc1 (v3 ++ (ex49 b1))])] ?_)
  cases h
  exact hQ
 ·refine Wp.skip (kt [1,3] [1,1003] [(1,.own 1 0),(3,.row 1003)] [(1,25,qc12 b1),(1003,9,[rc1 v3])] ?_)
  cases h
  exact hQ
def ref08_Texts_l3 (R_ref08_Texts:S_api_Node → Option ((List (List UInt8)))) (n:Nat) (v4:Int) (v5:List (List UInt8)) (b1:S_api_Node):Nat → (List (List UInt8)) → Int → Option ((List (List UInt8)))
 | 0,_,_=>none
 | k + 1,v3,v6=>if (decide (v6 < (List.length v5:Int))) = true then (if (decide (0 ≤ v6 ∧ v6 < (List.length v5:Int))) = true then (if (decide ((List.length v3 + List.length ([((v5)[Int.toNat v6]?.getD [])]:List (List UInt8))) * (16 + 1) ≤ limit)) = true then (ref08_Texts_l3 R_ref08_Texts n v4 v5 b1 k (v3 ++ ([((v5)[Int.toNat v6]?.getD [])]:List (List UInt8))) (IntKind.wrap .i64 (v6 + 1))) else none) else none)
 else some v3
abbrev ex50 (x0:List (List UInt8)) (x1:Int):=([((x0)[Int.toNat x1]?.getD [])]:List (List UInt8))
abbrev ex51 (x0:List (List UInt8)) (x1:Int):=(MkOb 1 [.str ((x0)[Int.toNat x1]?.getD [])] 1 (ls ([((x0)[Int.toNat x1]?.getD [])])) ∧ GoodR (ls ([((x0)[Int.toNat x1]?.getD [])])))
abbrev ex71 (x0:List (List UInt8)) (x1:List (List UInt8)) (x2:Int):=(AppOb [] E_string x0 (List.flatMap E_string (ex50 x1 x2)) (List.length (ex50 x1 x2)) (ls (x0 ++ (ex50 x1 x2))) ∧ GoodR (ls (x0 ++ (ex50 x1 x2))))
theorem ok_ref08_Texts_l3 (R_ref08_Texts:S_api_Node → Option ((List (List UInt8)))) (hR_ref08_Texts:hR49 R_ref08_Texts) (n:Nat) (v4:Int) (v5:List (List UInt8)) (b1:S_api_Node) {F0:Fz} {w0:Pt Tryz.prog} {Q:Exit → Act → World → Prop} (k:Nat):∀ (v3:List (List UInt8)) (v6:Int) (o:(List (List UInt8))),ref08_Texts_l3 R_ref08_Texts n v4 v5 b1 k v3 v6 = some o → To 43 F0 w0 [(1,.own 1 0),(3,.row 1003),(4,vi v4)] [(1,25,qc12 b1),(1003,9,[rc1 o])] (.exit 2) Q → WL Tryz.prog 43 F0 w0 [(1,.own 1 0),(3,.row 1003),(4,vi v4),(5,ls v5),(6,vi v6)] [(1,25,qc12 b1),(1003,9,[rc1 v3])] (cI (cI (cB (cB (cI (cA (cB (cI (cI (cB (cA (cB (cB (cB (cF Tryz.f33))))))))))))))) Q:=by
 induction k with
 | zero=>intro v3 v6 o h; cases h
 | succ k ih =>
  intro v3 v6 o h hQ
  rw [ref08_Texts_l3] at h
  refine WL.round (Wp.seq (Wp.seq (rg [1,3,4,5,6,32] [1,1003] [(1,.own 1 0),(3,.row 1003),(4,vi v4),(5,ls v5),(6,vi v6),(32,vb (ex5 v6 v5))] [(1,25,qc12 b1),(1003,9,[rc1 v3])] (To.thenN (cn h (fun h=>?_) (fun h=>?_))))))
  ·refine Wp.skip (To.thenN (Wp.seq (Wp.block ?_)))
   obtain ⟨hc3,h⟩:=chk_of h
   obtain ⟨hc4,h⟩:=chk_of h
   refine rr [] [(5,ls ([((v5)[Int.toNat v6]?.getD [])])),(6,ls (v3 ++ (ex50 v5 v6)))] [] [1,3,4,5,6] [1,41] [(1,.own 1 0),(3,.row 41),(4,vi v4),(5,ls v5),(6,vi v6)] [(1,25,qc12 b1),(41,9,[rc1 (v3 ++ (ex50 v5 v6))])] [_,(ex51 v5 v6),_,(ex71 v3 v5 v6)] (AllP.cons hc3 (AllP.cons (mkOb (by kernel_rfl) rfl (by kernel_rfl) (good_E_string _)) (AllP.cons hc4 (AllP.cons (appOb rfl rfl (good_E_string _)) AllP.nil)))) (To.blockN (To.thenN (rg [1,3,4,5,6] [1,41] [(1,.own 1 0),(3,.row 41),(4,vi v4),(5,ls v5),(ex34 v6)] [(1,25,qc12 b1),(41,9,[rc1 (v3 ++ (ex50 v5 v6))])] (nt [1,3,4,5,6] [1,41] [(41,1003)] [1,3,4,5,6] [1,1003] [(1,.own 1 0),(3,.row 1003),(4,vi v4),(5,ls v5),(ex34 v6)] [(1,25,qc12 b1),(1003,9,[rc1 (v3 ++ (ex50 v5 v6))])] (To.again ?_)))))
   exact ih (v3 ++ (ex50 v5 v6)) (IntKind.wrap .i64 (v6 + 1)) _ h hQ
  ·refine Wp.exit (To.thenX (To.thenX (kt [1,3,4] [1,1003] [(1,.own 1 0),(3,.row 1003),(4,vi v4)] [(1,25,qc12 b1),(1003,9,[rc1 v3])] ?_)))
   cases h
   exact hQ
def ref08_Texts_l2 (R_ref08_Texts:S_api_Node → Option ((List (List UInt8)))) (n:Nat) (b1:S_api_Node):Nat → (List (List UInt8)) → Int → Option ((List (List UInt8)))
 | 0,_,_=>none
 | k + 1,v3,v4=>if (decide (v4 < (List.length b1.f_Kids:Int))) = true then (if (decide (0 ≤ v4 ∧ v4 < (List.length b1.f_Kids:Int))) = true then ((R_ref08_Texts ((b1.f_Kids)[Int.toNat v4]?.getD (S_api_Node.mk 0 [] [] []))).bind fun r2 =>
 (ref08_Texts_l3 R_ref08_Texts n v4 r2 b1 n v3 0).bind fun o3 =>
 ref08_Texts_l2 R_ref08_Texts n b1 k o3 (IntKind.wrap .i64 (v4 + 1))) else none)
 else some v3
theorem ok_ref08_Texts_l2 (R_ref08_Texts:S_api_Node → Option ((List (List UInt8)))) (hR_ref08_Texts:hR49 R_ref08_Texts) (n:Nat) (b1:S_api_Node) {F0:Fz} {w0:Pt Tryz.prog} {Q:Exit → Act → World → Prop} (k:Nat):∀ (v3:List (List UInt8)) (v4:Int) (o:(List (List UInt8))),ref08_Texts_l2 R_ref08_Texts n b1 k v3 v4 = some o → To 43 F0 w0 [(3,.row 1003)] [(1003,9,[rc1 o])] (.exit 0) Q → WL Tryz.prog 43 F0 w0 [(1,.own 1 0),(3,.row 1003),(4,vi v4)] [(1,25,qc12 b1),(1003,9,[rc1 v3])] (cI (cI (cB (cA (cB (cB (cB (cF Tryz.f33)))))))) Q:=by
 induction k with
 | zero=>intro v3 v4 o h; cases h
 | succ k ih =>
  intro v3 v4 o h hQ
  rw [ref08_Texts_l2] at h
  refine WL.round (Wp.seq (Wp.seq (rg [1,3,4,20] [1,1003] [(1,.own 1 0),(3,.row 1003),(4,vi v4),(20,vb (ex8 v4 b1))] [(1,25,qc12 b1),(1003,9,[rc1 v3])] (To.thenN (cn h (fun h=>?_) (fun h=>?_))))))
  ·refine Wp.skip (To.thenN (Wp.seq (Wp.block (Wp.seq ?_))))
   obtain ⟨hc4,h⟩:=chk_of h
   obtain ⟨r2,hr2,h⟩:=bind_of h
   refine rr [] [(5,ls r2)] [] [1,3,4,5] [1,1003] [(1,.own 1 0),(3,.row 1003),(4,vi v4),(5,ls r2)] [(1,25,qc12 b1),(1003,9,[rc1 v3])] [_,(true = true → CX Tryz.prog 33 [.agg [vi ((ex7 b1 v4).f_Kind),.str ((ex7 b1 v4).f_Text),ls ((ex7 b1 v4).f_Keys),tn10 ((ex7 b1 v4).f_Kids)]] (ls r2))] (AllP.cons hc4 (AllP.cons (fun _=>cx (hR_ref08_Texts (ex7 b1 v4) _ hr2)) AllP.nil)) (To.thenN (Wp.seq (rg [1,3,4,5,6] [1,1003] [(1,.own 1 0),(3,.row 1003),(4,vi v4),(5,ls r2),(6,vi 0)] [(1,25,qc12 b1),(1003,9,[rc1 v3])] (To.thenN (Wp.block ?_)))))
   obtain ⟨o3,ho3,h⟩:=bind_of h
   refine kw [1,3,4,5,6] [1,1003] [(1,.own 1 0),(3,.row 1003),(4,vi v4),(5,ls r2),(6,vi 0)] [(1,25,qc12 b1),(1003,9,[rc1 v3])] (Wp.loopL (ok_ref08_Texts_l3 R_ref08_Texts hR_ref08_Texts n v4 r2 b1 n v3 0 o3 ho3 (To.blockX (To.blockN (To.thenN (rg [1,3,4] [1,1003] [(1,.own 1 0),(3,.row 1003),(ex12 v4)] [(1,25,qc12 b1),(1003,9,[rc1 o3])] (kt [1,3,4] [1,1003] [(1,.own 1 0),(3,.row 1003),(ex12 v4)] [(1,25,qc12 b1),(1003,9,[rc1 o3])] (To.again ?_))))))))
   exact ih o3 (IntKind.wrap .i64 (v4 + 1)) _ h hQ
  ·refine Wp.exit (To.thenX (To.thenX (kt [3] [1003] [(3,.row 1003)] [(1003,9,[rc1 v3])] ?_)))
   cases h
   exact hQ
def ref08_Texts_b (R_ref08_Texts:S_api_Node → Option ((List (List UInt8)))) (n:Nat) (a0:S_api_Node):Option ((List (List UInt8))) :=
 (ref08_Texts_j1 R_ref08_Texts n ([]:List (List UInt8)) (a0.f_Kind == 1) a0).bind fun o1 =>
 (ref08_Texts_l2 R_ref08_Texts n a0 n o1 0).bind fun o2 =>
 some o2
theorem ok_ref08_Texts_b (R_ref08_Texts:S_api_Node → Option ((List (List UInt8)))) (hR_ref08_Texts:hR49 R_ref08_Texts) (n:Nat) (a0:S_api_Node) (r:(List (List UInt8))) (h:ref08_Texts_b R_ref08_Texts n a0 = some r):CallsX Tryz.prog 33 [.agg (qc12 a0)] (ls r):=by
 unfold ref08_Texts_b at h
 refine xo Tryz.f33 rfl fun F0 w0 _=>?_
 refine Wp.seq (rg [1] [1] [(1,.own 1 0)] [(1,25,qc12 a0)] (To.thenN (Wp.seq (rr [] [(0,ls [])] [] [1,3] [1,7] [(1,.own 1 0),(3,.row 7)] [(1,25,qc12 a0),(7,9,[rc1 []])] [(MkOb 1 [] 0 (ls []) ∧ GoodR (ls []))] (AllP.cons (mkOb (by kernel_rfl) rfl (by kernel_rfl) (good_E_string _)) AllP.nil) (To.thenN (Wp.seq (Wp.seq (rg [1,3,10] [1,7] [(1,.own 1 0),(3,.row 7),(10,vb (a0.f_Kind == 1))] [(1,25,qc12 a0),(7,9,[rc1 []])] (To.thenN ?_)))))))))
 obtain ⟨o1,ho1,h⟩:=bind_of h
 refine nw [1,3,10] [1,7] [(7,1003)] [1,3,10] [1,1003] [(1,.own 1 0),(3,.row 1003),(10,vb (a0.f_Kind == 1))] [(1,25,qc12 a0),(1003,9,[rc1 []])] (ok_ref08_Texts_j1 R_ref08_Texts hR_ref08_Texts n ([]:List (List UInt8)) (a0.f_Kind == 1) a0 o1 ho1 (To.thenN (Wp.seq (Wp.seq (rg [1,3,4] [1,1003] [(1,.own 1 0),(3,.row 1003),(4,vi 0)] [(1,25,qc12 a0),(1003,9,[rc1 o1])] (To.thenN (Wp.block ?_)))))))
 obtain ⟨o2,ho2,h⟩:=bind_of h
 refine kw [1,3,4] [1,1003] [(1,.own 1 0),(3,.row 1003),(4,vi 0)] [(1,25,qc12 a0),(1003,9,[rc1 o1])] (Wp.loopL (ok_ref08_Texts_l2 R_ref08_Texts hR_ref08_Texts n a0 n o1 0 o2 ho2 (To.blockX (To.thenN (Wp.seq (rg [2] [1003] [(2,.row 1003)] [(1003,9,[rc1 o2])] (To.thenN (Wp.ret (To.pre (St.settle (ks:=[1003]) (kk:=[2]) (kl:=[1003]) (K':=[(2,.row 1003)]) (L':=[(1003,9,[rc8 o2])]) (by kernel_rfl)) (To.pre (St.sealK [2] (K':=[(2,ls o2)]) (by kernel_rfl)) ?_))))))))))
 cases h
 exact To.done hΓ (by kernel_rfl)
def ref08_Texts:Nat → S_api_Node → Option ((List (List UInt8)))
 | 0=>fun _=>none
 | n + 1=>ref08_Texts_b (ref08_Texts n) n
theorem ok_ref08_Texts (n:Nat):∀ (a0:S_api_Node) (r:(List (List UInt8))),ref08_Texts n a0 = some r → CallsX Tryz.prog 33 [.agg (qc12 a0)] (ls r):=by
 induction n with
 | zero=>intro a0 r h; cases h
 | succ n ih=>exact fun a0 r h=>ok_ref08_Texts_b (ref08_Texts n) ih n a0 r h
def ref13_names_j3 (R_ref13_names:(List (S_ref13_Part)) → Option ((List (List UInt8)))) (n:Nat) (v0:List (S_ref13_Part)) (v3:List (List UInt8)) (v4:Int) (v19:Bool):Option ((List (List UInt8))) :=
 if v19 = true then (if (decide (0 ≤ v4 ∧ v4 < (List.length v0:Int))) = true then (if (decide ((List.length v3 + List.length ([((v0)[Int.toNat v4]?.getD (S_ref13_Part.mk [] [] 0 [])).f_Name]:List (List UInt8))) * (16 + 1) ≤ limit)) = true then (some (v3 ++ ([((v0)[Int.toNat v4]?.getD (S_ref13_Part.mk [] [] 0 [])).f_Name]:List (List UInt8)))) else none) else none)
 else some v3
abbrev hR50 (R_ref13_names:(List (S_ref13_Part)) → Option ((List (List UInt8)))):Prop:=∀ (a0:List (S_ref13_Part)) (r:(List (List UInt8))),R_ref13_names a0 = some r → CallsX Tryz.prog 54 [rs34 a0] (ls r)
abbrev ex72 (x0:List (S_ref13_Part)) (x1:Int):=([(ex44 x0 x1).f_Name]:List (List UInt8))
theorem ok_ref13_names_j3 (R_ref13_names:(List (S_ref13_Part)) → Option ((List (List UInt8)))) (hR_ref13_names:hR50 R_ref13_names) (n:Nat) (v0:List (S_ref13_Part)) (v3:List (List UInt8)) (v4:Int) (v19:Bool) (o:(List (List UInt8))) (h:ref13_names_j3 R_ref13_names n v0 v3 v4 v19 = some o) {F0:Fz} {w0:Pt Tryz.prog} {Q:Exit → Act → World → Prop} (hQ:To 48 F0 w0 [(0,rs34 v0),(3,.row 1003),(4,vi v4)] [(1003,9,[rc1 o])] .normal Q):Wp Tryz.prog 48 F0 w0 [(0,rs34 v0),(3,.row 1003),(4,vi v4),(19,vb v19)] [(1003,9,[rc1 v3])] (cB (cA (cI (cA (cB (cI (cI (cB (cA (cB (cB (cF Tryz.f54)))))))))))) Q:=by
 unfold ref13_names_j3 at h
 refine cn h (fun h=>?_) (fun h=>?_)
 ·obtain ⟨hc1,h⟩:=chk_of h
  obtain ⟨hc2,h⟩:=chk_of h
  refine rr [] [(6,ls ([(ex44 v0 v4).f_Name])),(7,ls (v3 ++ (ex72 v0 v4)))] [] [0,3,4] [27] [(0,rs34 v0),(3,.row 27),(4,vi v4)] [(27,9,[rc1 (v3 ++ (ex72 v0 v4))])] [_,(MkOb 1 [.str ((ex44 v0 v4).f_Name)] 1 (ls ([(ex44 v0 v4).f_Name])) ∧ GoodR (ls ([(ex44 v0 v4).f_Name]))),_,(AppOb [] E_string v3 (List.flatMap E_string (ex72 v0 v4)) (List.length (ex72 v0 v4)) (ls (v3 ++ (ex72 v0 v4))) ∧ GoodR (ls (v3 ++ (ex72 v0 v4))))] (AllP.cons hc1 (AllP.cons (mkOb (by kernel_rfl) rfl (by kernel_rfl) (good_E_string _)) (AllP.cons hc2 (AllP.cons (appOb rfl rfl (good_E_string _)) AllP.nil)))) (nt [0,3,4] [27] [(27,1003)] [0,3,4] [1003] [(0,rs34 v0),(3,.row 1003),(4,vi v4)] [(1003,9,[rc1 (v3 ++ (ex72 v0 v4))])] ?_)
  cases h
  exact hQ
 ·refine Wp.skip (kt [0,3,4] [1003] [(0,rs34 v0),(3,.row 1003),(4,vi v4)] [(1003,9,[rc1 v3])] ?_)
  cases h
  exact hQ
def ref13_names_l4 (R_ref13_names:(List (S_ref13_Part)) → Option ((List (List UInt8)))) (n:Nat) (v0:List (S_ref13_Part)) (v4:Int) (v5:List (List UInt8)):Nat → (List (List UInt8)) → Int → Option ((List (List UInt8)))
 | 0,_,_=>none
 | k + 1,v3,v6=>if (decide (v6 < (List.length v5:Int))) = true then (if (decide (0 ≤ v6 ∧ v6 < (List.length v5:Int))) = true then (if (decide ((List.length v3 + List.length ([((v5)[Int.toNat v6]?.getD [])]:List (List UInt8))) * (16 + 1) ≤ limit)) = true then (ref13_names_l4 R_ref13_names n v0 v4 v5 k (v3 ++ ([((v5)[Int.toNat v6]?.getD [])]:List (List UInt8))) (IntKind.wrap .i64 (v6 + 1))) else none) else none)
 else some v3
theorem ok_ref13_names_l4 (R_ref13_names:(List (S_ref13_Part)) → Option ((List (List UInt8)))) (hR_ref13_names:hR50 R_ref13_names) (n:Nat) (v0:List (S_ref13_Part)) (v4:Int) (v5:List (List UInt8)) {F0:Fz} {w0:Pt Tryz.prog} {Q:Exit → Act → World → Prop} (k:Nat):∀ (v3:List (List UInt8)) (v6:Int) (o:(List (List UInt8))),ref13_names_l4 R_ref13_names n v0 v4 v5 k v3 v6 = some o → To 48 F0 w0 [(0,rs34 v0),(3,.row 1003),(4,vi v4)] [(1003,9,[rc1 o])] (.exit 2) Q → WL Tryz.prog 48 F0 w0 [(0,rs34 v0),(3,.row 1003),(4,vi v4),(5,ls v5),(6,vi v6)] [(1003,9,[rc1 v3])] (cI (cI (cB (cB (cB (cI (cA (cB (cI (cI (cB (cA (cB (cB (cF Tryz.f54))))))))))))))) Q:=by
 induction k with
 | zero=>intro v3 v6 o h; cases h
 | succ k ih =>
  intro v3 v6 o h hQ
  rw [ref13_names_l4] at h
  refine WL.round (Wp.seq (Wp.seq (rg [0,3,4,5,6,37] [1003] [(0,rs34 v0),(3,.row 1003),(4,vi v4),(5,ls v5),(6,vi v6),(37,vb (ex5 v6 v5))] [(1003,9,[rc1 v3])] (To.thenN (cn h (fun h=>?_) (fun h=>?_))))))
  ·refine Wp.skip (To.thenN (Wp.seq (Wp.block ?_)))
   obtain ⟨hc3,h⟩:=chk_of h
   obtain ⟨hc4,h⟩:=chk_of h
   refine rr [] [(5,ls ([((v5)[Int.toNat v6]?.getD [])])),(6,ls (v3 ++ (ex50 v5 v6)))] [] [0,3,4,5,6] [46] [(0,rs34 v0),(3,.row 46),(4,vi v4),(5,ls v5),(6,vi v6)] [(46,9,[rc1 (v3 ++ (ex50 v5 v6))])] [_,(ex51 v5 v6),_,(ex71 v3 v5 v6)] (AllP.cons hc3 (AllP.cons (mkOb (by kernel_rfl) rfl (by kernel_rfl) (good_E_string _)) (AllP.cons hc4 (AllP.cons (appOb rfl rfl (good_E_string _)) AllP.nil)))) (To.blockN (To.thenN (rg [0,3,4,5,6] [46] [(0,rs34 v0),(3,.row 46),(4,vi v4),(5,ls v5),(ex34 v6)] [(46,9,[rc1 (v3 ++ (ex50 v5 v6))])] (nt [0,3,4,5,6] [46] [(46,1003)] [0,3,4,5,6] [1003] [(0,rs34 v0),(3,.row 1003),(4,vi v4),(5,ls v5),(ex34 v6)] [(1003,9,[rc1 (v3 ++ (ex50 v5 v6))])] (To.again ?_)))))
   exact ih (v3 ++ (ex50 v5 v6)) (IntKind.wrap .i64 (v6 + 1)) _ h hQ
  ·refine Wp.exit (To.thenX (To.thenX (kt [0,3,4] [1003] [(0,rs34 v0),(3,.row 1003),(4,vi v4)] [(1003,9,[rc1 v3])] ?_)))
   cases h
   exact hQ
def ref13_names_j2 (R_ref13_names:(List (S_ref13_Part)) → Option ((List (List UInt8)))) (n:Nat) (v0:List (S_ref13_Part)) (v3:List (List UInt8)) (v4:Int):Option ((List (List UInt8))) :=
 if (decide (0 ≤ v4 ∧ v4 < (List.length v0:Int))) = true then ((ref13_names_j3 R_ref13_names n v0 v3 v4 ((((v0)[Int.toNat v4]?.getD (S_ref13_Part.mk [] [] 0 [])).f_Op) != 0)).bind fun o1 =>
 if (decide (0 ≤ v4 ∧ v4 < (List.length v0:Int))) = true then ((R_ref13_names (((v0)[Int.toNat v4]?.getD (S_ref13_Part.mk [] [] 0 [])).f_Sub)).bind fun r2 =>
 (ref13_names_l4 R_ref13_names n v0 v4 r2 n o1 0).bind fun o3 =>
 some o3) else none) else none
theorem ok_ref13_names_j2 (R_ref13_names:(List (S_ref13_Part)) → Option ((List (List UInt8)))) (hR_ref13_names:hR50 R_ref13_names) (n:Nat) (v0:List (S_ref13_Part)) (v3:List (List UInt8)) (v4:Int) (o:(List (List UInt8))) (h:ref13_names_j2 R_ref13_names n v0 v3 v4 = some o) {F0:Fz} {w0:Pt Tryz.prog} {Q:Exit → Act → World → Prop} (hQ:To 48 F0 w0 [(0,rs34 v0),(3,.row 1003),(4,vi v4)] [(1003,9,[rc1 o])] .normal Q):Wp Tryz.prog 48 F0 w0 [(0,rs34 v0),(3,.row 1003),(4,vi v4)] [(1003,9,[rc1 v3])] (cA (cB (cI (cI (cB (cA (cB (cB (cF Tryz.f54))))))))) Q:=by
 unfold ref13_names_j2 at h
 refine Wp.block (Wp.seq (Wp.seq ?_))
 obtain ⟨hc5,h⟩:=chk_of h
 refine r0 [0,3,4,19] [1003] [(0,rs34 v0),(3,.row 1003),(4,vi v4),(19,vb (((ex44 v0 v4).f_Op) != 0))] [(1003,9,[rc1 v3])] (AllP.cons hc5 AllP.nil) (To.thenN ?_)
 obtain ⟨o1,ho1,h⟩:=bind_of h
 refine kw [0,3,4,19] [1003] [(0,rs34 v0),(3,.row 1003),(4,vi v4),(19,vb (((ex44 v0 v4).f_Op) != 0))] [(1003,9,[rc1 v3])] (ok_ref13_names_j3 R_ref13_names hR_ref13_names n v0 v3 v4 (((ex44 v0 v4).f_Op) != 0) o1 ho1 (To.thenN (Wp.seq ?_)))
 obtain ⟨hc4,h⟩:=chk_of h
 obtain ⟨r2,hr2,h⟩:=bind_of h
 refine rr [] [(5,ls r2)] [] [0,3,4,5] [1003] [(0,rs34 v0),(3,.row 1003),(4,vi v4),(5,ls r2)] [(1003,9,[rc1 o1])] [_,(true = true → CX Tryz.prog 54 [rs34 ((ex44 v0 v4).f_Sub)] (ls r2))] (AllP.cons hc4 (AllP.cons (fun _=>cx (hR_ref13_names ((ex44 v0 v4).f_Sub) _ hr2)) AllP.nil)) (To.thenN (Wp.seq (rg [0,3,4,5,6] [1003] [(0,rs34 v0),(3,.row 1003),(4,vi v4),(5,ls r2),(6,vi 0)] [(1003,9,[rc1 o1])] (To.thenN (Wp.block ?_)))))
 obtain ⟨o3,ho3,h⟩:=bind_of h
 refine kw [0,3,4,5,6] [1003] [(0,rs34 v0),(3,.row 1003),(4,vi v4),(5,ls r2),(6,vi 0)] [(1003,9,[rc1 o1])] (Wp.loopL (ok_ref13_names_l4 R_ref13_names hR_ref13_names n v0 v4 r2 n o1 0 o3 ho3 (To.blockX (To.blockN (kt [0,3,4] [1003] [(0,rs34 v0),(3,.row 1003),(4,vi v4)] [(1003,9,[rc1 o3])] ?_)))))
 cases h
 exact hQ
def ref13_names_l1 (R_ref13_names:(List (S_ref13_Part)) → Option ((List (List UInt8)))) (n:Nat) (v0:List (S_ref13_Part)):Nat → (List (List UInt8)) → Int → Option ((List (List UInt8)))
 | 0,_,_=>none
 | k + 1,v3,v4=>if (decide (v4 < (List.length v0:Int))) = true then ((ref13_names_j2 R_ref13_names n v0 v3 v4).bind fun o1 =>
 ref13_names_l1 R_ref13_names n v0 k o1 (IntKind.wrap .i64 (v4 + 1)))
 else some v3
theorem ok_ref13_names_l1 (R_ref13_names:(List (S_ref13_Part)) → Option ((List (List UInt8)))) (hR_ref13_names:hR50 R_ref13_names) (n:Nat) (v0:List (S_ref13_Part)) {F0:Fz} {w0:Pt Tryz.prog} {Q:Exit → Act → World → Prop} (k:Nat):∀ (v3:List (List UInt8)) (v4:Int) (o:(List (List UInt8))),ref13_names_l1 R_ref13_names n v0 k v3 v4 = some o → To 48 F0 w0 [(3,.row 1003)] [(1003,9,[rc1 o])] (.exit 0) Q → WL Tryz.prog 48 F0 w0 [(0,rs34 v0),(3,.row 1003),(4,vi v4)] [(1003,9,[rc1 v3])] (cI (cI (cB (cA (cB (cB (cF Tryz.f54))))))) Q:=by
 induction k with
 | zero=>intro v3 v4 o h; cases h
 | succ k ih =>
  intro v3 v4 o h hQ
  rw [ref13_names_l1] at h
  refine WL.round (Wp.seq (Wp.seq (rg [0,3,4,11] [1003] [(0,rs34 v0),(3,.row 1003),(4,vi v4),(11,vb (decide (v4 < (List.length v0:Int))))] [(1003,9,[rc1 v3])] (To.thenN (cn h (fun h=>?_) (fun h=>?_))))))
  ·refine Wp.skip (To.thenN (Wp.seq ?_))
   obtain ⟨o1,ho1,h⟩:=bind_of h
   refine kw [0,3,4] [1003] [(0,rs34 v0),(3,.row 1003),(4,vi v4)] [(1003,9,[rc1 v3])] (ok_ref13_names_j2 R_ref13_names hR_ref13_names n v0 v3 v4 o1 ho1 (To.thenN (rg [0,3,4] [1003] [(0,rs34 v0),(3,.row 1003),(ex12 v4)] [(1003,9,[rc1 o1])] (kt [0,3,4] [1003] [(0,rs34 v0),(3,.row 1003),(ex12 v4)] [(1003,9,[rc1 o1])] (To.again ?_)))))
   exact ih o1 (IntKind.wrap .i64 (v4 + 1)) _ h hQ
  ·refine Wp.exit (To.thenX (To.thenX (kt [3] [1003] [(3,.row 1003)] [(1003,9,[rc1 v3])] ?_)))
   cases h
   exact hQ
def ref13_names_b (R_ref13_names:(List (S_ref13_Part)) → Option ((List (List UInt8)))) (n:Nat) (a0:List (S_ref13_Part)):Option ((List (List UInt8))) :=
 (ref13_names_l1 R_ref13_names n a0 n ([]:List (List UInt8)) 0).bind fun o1 =>
 some o1
theorem ok_ref13_names_b (R_ref13_names:(List (S_ref13_Part)) → Option ((List (List UInt8)))) (hR_ref13_names:hR50 R_ref13_names) (n:Nat) (a0:List (S_ref13_Part)) (r:(List (List UInt8))) (h:ref13_names_b R_ref13_names n a0 = some r):CallsX Tryz.prog 54 [rs34 a0] (ls r):=by
 unfold ref13_names_b at h
 refine xo Tryz.f54 rfl fun F0 w0 _=>?_
 refine Wp.seq (rg [0] [] [(0,rs34 a0)] [] (To.thenN (Wp.seq (rr [] [(0,ls [])] [] [0,3] [7] [(0,rs34 a0),(3,.row 7)] [(7,9,[rc1 []])] [(MkOb 1 [] 0 (ls []) ∧ GoodR (ls []))] (AllP.cons (mkOb (by kernel_rfl) rfl (by kernel_rfl) (good_E_string _)) AllP.nil) (To.thenN (Wp.seq (Wp.seq (rg [0,3,4] [7] [(0,rs34 a0),(3,.row 7),(4,vi 0)] [(7,9,[rc1 []])] (To.thenN (Wp.block ?_))))))))))
 obtain ⟨o1,ho1,h⟩:=bind_of h
 refine nw [0,3,4] [7] [(7,1003)] [0,3,4] [1003] [(0,rs34 a0),(3,.row 1003),(4,vi 0)] [(1003,9,[rc1 []])] (Wp.loopL (ok_ref13_names_l1 R_ref13_names hR_ref13_names n a0 n ([]:List (List UInt8)) 0 o1 ho1 (To.blockX (To.thenN (Wp.seq (rg [2] [1003] [(2,.row 1003)] [(1003,9,[rc1 o1])] (To.thenN (Wp.ret (To.pre (St.settle (ks:=[1003]) (kk:=[2]) (kl:=[1003]) (K':=[(2,.row 1003)]) (L':=[(1003,9,[rc8 o1])]) (by kernel_rfl)) (To.pre (St.sealK [2] (K':=[(2,ls o1)]) (by kernel_rfl)) ?_))))))))))
 cases h
 exact To.done hΓ (by kernel_rfl)
def ref13_names:Nat → (List (S_ref13_Part)) → Option ((List (List UInt8)))
 | 0=>fun _=>none
 | n + 1=>ref13_names_b (ref13_names n) n
theorem ok_ref13_names (n:Nat):∀ (a0:List (S_ref13_Part)) (r:(List (List UInt8))),ref13_names n a0 = some r → CallsX Tryz.prog 54 [rs34 a0] (ls r):=by
 induction n with
 | zero=>intro a0 r h; cases h
 | succ n ih=>exact fun a0 r h=>ok_ref13_names_b (ref13_names n) ih n a0 r h
def ref13_Names (n:Nat) (a0:List (S_ref13_Part)):Option ((List (List UInt8))) :=
 (ref13_names n a0).bind fun r1 =>
 (ref02_Sorted n r1).bind fun r2 =>
 some r2
theorem ok_ref13_Names (n:Nat) (a0:List (S_ref13_Part)) (r:(List (List UInt8))) (h:ref13_Names n a0 = some r):CallsX Tryz.prog 36 [rs34 a0] (ls r):=by
 unfold ref13_Names at h
 refine xo Tryz.f36 rfl fun F0 w0 _=>?_
 refine Wp.seq (rg [0] [] [(0,rs34 a0)] [] (To.thenN (Wp.seq ?_)))
 obtain ⟨r1,hr1,h⟩:=bind_of h
 obtain ⟨r2,hr2,h⟩:=bind_of h
 refine rr [] [(1,ls r1),(2,ls r2)] [] [2] [] [(2,ls r2)] [] [_,_] (AllP.cons (c1 (ok_ref13_names n a0 _ hr1)) (AllP.cons (c1 (ok_ref02_Sorted n r1 _ hr2)) AllP.nil)) (To.thenN (Wp.ret ?_))
 cases h
 exact To.done hΓ (by kernel_rfl)
def ref02_Both_l1 (n:Nat) (v0:List (List UInt8)) (v1:List (List UInt8)):Nat → (List (List UInt8)) → Int → Option ((List (List UInt8)))
 | 0,_,_=>none
 | k + 1,v5,v6=>if (decide (v6 < (List.length v0:Int))) = true then (if (decide (0 ≤ v6 ∧ v6 < (List.length v0:Int))) = true then (if (decide ((List.length v5 + List.length ([((v0)[Int.toNat v6]?.getD [])]:List (List UInt8))) * (16 + 1) ≤ limit)) = true then (ref02_Both_l1 n v0 v1 k (v5 ++ ([((v0)[Int.toNat v6]?.getD [])]:List (List UInt8))) (IntKind.wrap .i64 (v6 + 1))) else none) else none)
 else some v5
theorem ok_ref02_Both_l1 (n:Nat) (v0:List (List UInt8)) (v1:List (List UInt8)) {F0:Fz} {w0:Pt Tryz.prog} {Q:Exit → Act → World → Prop} (k:Nat):∀ (v5:List (List UInt8)) (v6:Int) (o:(List (List UInt8))),ref02_Both_l1 n v0 v1 k v5 v6 = some o → To 37 F0 w0 [(1,ls v1),(5,.row 1005)] [(1005,9,[rc1 o])] (.exit 0) Q → WL Tryz.prog 37 F0 w0 [(0,ls v0),(1,ls v1),(5,.row 1005),(6,vi v6)] [(1005,9,[rc1 v5])] (cI (cI (cB (cA (cB (cB (cF Tryz.f35))))))) Q:=by
 induction k with
 | zero=>intro v5 v6 o h; cases h
 | succ k ih =>
  intro v5 v6 o h hQ
  rw [ref02_Both_l1] at h
  refine WL.round (Wp.seq (Wp.seq (rg [0,1,5,6,12] [1005] [(0,ls v0),(1,ls v1),(5,.row 1005),(6,vi v6),(12,vb (ex5 v6 v0))] [(1005,9,[rc1 v5])] (To.thenN (cn h (fun h=>?_) (fun h=>?_))))))
  ·refine Wp.skip (To.thenN (Wp.seq (Wp.block ?_)))
   obtain ⟨hc1,h⟩:=chk_of h
   obtain ⟨hc2,h⟩:=chk_of h
   refine rr [] [(5,ls ([((v0)[Int.toNat v6]?.getD [])])),(6,ls (v5 ++ (ex50 v0 v6)))] [] [0,1,5,6] [21] [(0,ls v0),(1,ls v1),(5,.row 21),(6,vi v6)] [(21,9,[rc1 (v5 ++ (ex50 v0 v6))])] [_,(ex51 v0 v6),_,(ex71 v5 v0 v6)] (AllP.cons hc1 (AllP.cons (mkOb (by kernel_rfl) rfl (by kernel_rfl) (good_E_string _)) (AllP.cons hc2 (AllP.cons (appOb rfl rfl (good_E_string _)) AllP.nil)))) (To.blockN (To.thenN (rg [0,1,5,6] [21] [(0,ls v0),(1,ls v1),(5,.row 21),(ex34 v6)] [(21,9,[rc1 (v5 ++ (ex50 v0 v6))])] (nt [0,1,5,6] [21] [(21,1005)] [0,1,5,6] [1005] [(0,ls v0),(1,ls v1),(5,.row 1005),(ex34 v6)] [(1005,9,[rc1 (v5 ++ (ex50 v0 v6))])] (To.again ?_)))))
   exact ih (v5 ++ (ex50 v0 v6)) (IntKind.wrap .i64 (v6 + 1)) _ h hQ
  ·refine Wp.exit (To.thenX (To.thenX (kt [1,5] [1005] [(1,ls v1),(5,.row 1005)] [(1005,9,[rc1 v5])] ?_)))
   cases h
   exact hQ
def ref02_Both_l2 (n:Nat) (v1:List (List UInt8)):Nat → (List (List UInt8)) → Int → Option ((List (List UInt8)))
 | 0,_,_=>none
 | k + 1,v5,v7=>if (decide (v7 < (List.length v1:Int))) = true then (if (decide (0 ≤ v7 ∧ v7 < (List.length v1:Int))) = true then (if (decide ((List.length v5 + List.length ([((v1)[Int.toNat v7]?.getD [])]:List (List UInt8))) * (16 + 1) ≤ limit)) = true then (ref02_Both_l2 n v1 k (v5 ++ ([((v1)[Int.toNat v7]?.getD [])]:List (List UInt8))) (IntKind.wrap .i64 (v7 + 1))) else none) else none)
 else some v5
theorem ok_ref02_Both_l2 (n:Nat) (v1:List (List UInt8)) {F0:Fz} {w0:Pt Tryz.prog} {Q:Exit → Act → World → Prop} (k:Nat):∀ (v5:List (List UInt8)) (v7:Int) (o:(List (List UInt8))),ref02_Both_l2 n v1 k v5 v7 = some o → To 37 F0 w0 [(5,.row 1005)] [(1005,9,[rc1 o])] (.exit 2) Q → WL Tryz.prog 37 F0 w0 [(1,ls v1),(5,.row 1005),(7,vi v7)] [(1005,9,[rc1 v5])] (cI (cI (cB (cA (cB (cB (cB (cF Tryz.f35)))))))) Q:=by
 induction k with
 | zero=>intro v5 v7 o h; cases h
 | succ k ih =>
  intro v5 v7 o h hQ
  rw [ref02_Both_l2] at h
  refine WL.round (Wp.seq (Wp.seq (rg [1,5,7,25] [1005] [(1,ls v1),(5,.row 1005),(7,vi v7),(25,vb (ex5 v7 v1))] [(1005,9,[rc1 v5])] (To.thenN (cn h (fun h=>?_) (fun h=>?_))))))
  ·refine Wp.skip (To.thenN (Wp.seq (Wp.block ?_)))
   obtain ⟨hc2,h⟩:=chk_of h
   obtain ⟨hc3,h⟩:=chk_of h
   refine rr [] [(5,ls ([((v1)[Int.toNat v7]?.getD [])])),(6,ls (v5 ++ (ex50 v1 v7)))] [] [1,5,7] [34] [(1,ls v1),(5,.row 34),(7,vi v7)] [(34,9,[rc1 (v5 ++ (ex50 v1 v7))])] [_,(ex51 v1 v7),_,(ex71 v5 v1 v7)] (AllP.cons hc2 (AllP.cons (mkOb (by kernel_rfl) rfl (by kernel_rfl) (good_E_string _)) (AllP.cons hc3 (AllP.cons (appOb rfl rfl (good_E_string _)) AllP.nil)))) (To.blockN (To.thenN (rg [1,5,7] [34] [(1,ls v1),(5,.row 34),(ex10 v7)] [(34,9,[rc1 (v5 ++ (ex50 v1 v7))])] (nt [1,5,7] [34] [(34,1005)] [1,5,7] [1005] [(1,ls v1),(5,.row 1005),(ex10 v7)] [(1005,9,[rc1 (v5 ++ (ex50 v1 v7))])] (To.again ?_)))))
   exact ih (v5 ++ (ex50 v1 v7)) (IntKind.wrap .i64 (v7 + 1)) _ h hQ
  ·refine Wp.exit (To.thenX (To.thenX (kt [5] [1005] [(5,.row 1005)] [(1005,9,[rc1 v5])] ?_)))
   cases h
   exact hQ
def ref02_Both (n:Nat) (a0:List (List UInt8)) (a1:List (List UInt8)):Option ((List (List UInt8))) :=
 (ref02_Both_l1 n a0 a1 n ([]:List (List UInt8)) 0).bind fun o1 =>
 (ref02_Both_l2 n a1 n o1 0).bind fun o2 =>
 (ref02_Sorted n o2).bind fun r3 =>
 some r3
theorem ok_ref02_Both (n:Nat) (a0:List (List UInt8)) (a1:List (List UInt8)) (r:(List (List UInt8))) (h:ref02_Both n a0 a1 = some r):CallsX Tryz.prog 35 [ls a0,ls a1] (ls r):=by
 unfold ref02_Both at h
 refine xo Tryz.f35 rfl fun F0 w0 _=>?_
 refine Wp.seq (rg [0,1] [] [(0,ls a0),(1,ls a1)] [] (To.thenN (Wp.seq (rr [] [(0,ls [])] [] [0,1,5] [8] [(0,ls a0),(1,ls a1),(5,.row 8)] [(8,9,[rc1 []])] [(MkOb 1 [] 0 (ls []) ∧ GoodR (ls []))] (AllP.cons (mkOb (by kernel_rfl) rfl (by kernel_rfl) (good_E_string _)) AllP.nil) (To.thenN (Wp.seq (Wp.seq (rg [0,1,5,6] [8] [(0,ls a0),(1,ls a1),(5,.row 8),(6,vi 0)] [(8,9,[rc1 []])] (To.thenN (Wp.block ?_))))))))))
 obtain ⟨o1,ho1,h⟩:=bind_of h
 refine nw [0,1,5,6] [8] [(8,1005)] [0,1,5,6] [1005] [(0,ls a0),(1,ls a1),(5,.row 1005),(6,vi 0)] [(1005,9,[rc1 []])] (Wp.loopL (ok_ref02_Both_l1 n a0 a1 n ([]:List (List UInt8)) 0 o1 ho1 (To.blockX (To.thenN (Wp.seq (Wp.seq (rg [1,5,7] [1005] [(1,ls a1),(5,.row 1005),(7,vi 0)] [(1005,9,[rc1 o1])] (To.thenN (Wp.block ?_)))))))))
 obtain ⟨o2,ho2,h⟩:=bind_of h
 refine kw [1,5,7] [1005] [(1,ls a1),(5,.row 1005),(7,vi 0)] [(1005,9,[rc1 o1])] (Wp.loopL (ok_ref02_Both_l2 n a1 n o1 0 o2 ho2 (To.blockX (To.thenN (Wp.seq ?_)))))
 obtain ⟨r3,hr3,h⟩:=bind_of h
 refine rc [(1,[1005])] 1 [4] [] [(4,ls r3)] [] (ok_ref02_Sorted n o2 _ hr3) (To.thenN (Wp.ret ?_))
 cases h
 exact To.done hΓ (by kernel_rfl)
def ref14_Names_j2 (n:Nat) (v3:List (List UInt8)) (v4:List (List UInt8)) (v5:Int):Option ((List (List UInt8))) :=
 if (decide (0 ≤ v5 ∧ v5 < (List.length v4:Int))) = true then ((ref13_Parse n ((v4)[Int.toNat v5]?.getD [])).bind fun r2 =>
 if (r2.2 == 0) = true then ((ref13_Names n r2.1).bind fun r3 =>
 (ref02_Both n v3 r3).bind fun r4 =>
 some r4)
 else some v3) else none
theorem ok_ref14_Names_j2 (n:Nat) (v3:List (List UInt8)) (v4:List (List UInt8)) (v5:Int) (o:(List (List UInt8))) (h:ref14_Names_j2 n v3 v4 v5 = some o) {F0:Fz} {w0:Pt Tryz.prog} {Q:Exit → Act → World → Prop} (hQ:To 32 F0 w0 [(3,ls o),(4,ls v4),(5,vi v5)] [] .normal Q):Wp Tryz.prog 32 F0 w0 [(3,ls v3),(4,ls v4),(5,vi v5)] [] (cA (cB (cI (cI (cB (cA (cB (cB (cB (cF Tryz.f14)))))))))) Q:=by
 unfold ref14_Names_j2 at h
 refine Wp.block (Wp.seq ?_)
 obtain ⟨hc5,h⟩:=chk_of h
 obtain ⟨r2,hr2,h⟩:=bind_of h
 refine rr [] [(4,.tup [rs34 r2.1,vi r2.2])] [] [3,4,5,6,7] [] [(3,ls v3),(4,ls v4),(5,vi v5),(6,rs34 r2.1),(7,vi r2.2)] [] [_,_] (AllP.cons hc5 (AllP.cons (c1 (ok_ref13_Parse n ((v4)[Int.toNat v5]?.getD []) _ hr2)) AllP.nil)) (To.thenN (Wp.seq (rg [3,4,5,6,26] [] [(3,ls v3),(4,ls v4),(5,vi v5),(6,rs34 r2.1),(26,vb (r2.2 == 0))] [] (To.thenN (cn h (fun h=>?_) (fun h=>?_))))))
 ·obtain ⟨r3,hr3,h⟩:=bind_of h
  obtain ⟨r4,hr4,h⟩:=bind_of h
  refine rr [] [(2,ls r3),(3,ls r4)] [] [3,4,5] [] [(3,ls r4),(4,ls v4),(5,vi v5)] [] [_,_] (AllP.cons (c1 (ok_ref13_Names n r2.1 _ hr3)) (AllP.cons (c1 (ok_ref02_Both n v3 r3 _ hr4)) AllP.nil)) (To.blockN ?_)
  cases h
  exact hQ
 ·refine Wp.skip (To.blockN (kt [3,4,5] [] [(3,ls v3),(4,ls v4),(5,vi v5)] [] ?_))
  cases h
  exact hQ
def ref14_Names_l1 (n:Nat) (v4:List (List UInt8)):Nat → (List (List UInt8)) → Int → Option ((List (List UInt8)))
 | 0,_,_=>none
 | k + 1,v3,v5=>if (decide (v5 < (List.length v4:Int))) = true then ((ref14_Names_j2 n v3 v4 v5).bind fun o2 =>
 ref14_Names_l1 n v4 k o2 (IntKind.wrap .i64 (v5 + 1)))
 else some v3
theorem ok_ref14_Names_l1 (n:Nat) (v4:List (List UInt8)) {F0:Fz} {w0:Pt Tryz.prog} {Q:Exit → Act → World → Prop} (k:Nat):∀ (v3:List (List UInt8)) (v5:Int) (o:(List (List UInt8))),ref14_Names_l1 n v4 k v3 v5 = some o → To 32 F0 w0 [(3,ls o)] [] (.exit 0) Q → WL Tryz.prog 32 F0 w0 [(3,ls v3),(4,ls v4),(5,vi v5)] [] (cI (cI (cB (cA (cB (cB (cB (cF Tryz.f14)))))))) Q:=by
 induction k with
 | zero=>intro v3 v5 o h; cases h
 | succ k ih =>
  intro v3 v5 o h hQ
  rw [ref14_Names_l1] at h
  refine WL.round (Wp.seq (Wp.seq (rg [3,4,5,14] [] [(3,ls v3),(4,ls v4),(5,vi v5),(14,vb (ex5 v5 v4))] [] (To.thenN (cn h (fun h=>?_) (fun h=>?_))))))
  ·refine Wp.skip (To.thenN (Wp.seq ?_))
   obtain ⟨o2,ho2,h⟩:=bind_of h
   refine kw [3,4,5] [] [(3,ls v3),(4,ls v4),(5,vi v5)] [] (ok_ref14_Names_j2 n v3 v4 v5 o2 ho2 (To.thenN (rg [3,4,5] [] [(3,ls o2),(4,ls v4),(ex6 v5)] [] (kt [3,4,5] [] [(3,ls o2),(4,ls v4),(ex6 v5)] [] (To.again ?_)))))
   exact ih o2 (IntKind.wrap .i64 (v5 + 1)) _ h hQ
  ·refine Wp.exit (To.thenX (To.thenX (kt [3] [] [(3,ls v3)] [] ?_)))
   cases h
   exact hQ
def ref14_Names (n:Nat) (a0:S_api_Node):Option ((List (List UInt8))) :=
 (ref08_Texts n a0).bind fun r1 =>
 (ref14_Names_l1 n r1 n [] 0).bind fun o2 =>
 some o2
theorem ok_ref14_Names (n:Nat) (a0:S_api_Node) (r:(List (List UInt8))) (h:ref14_Names n a0 = some r):CallsX Tryz.prog 14 [.agg (qc12 a0)] (ls r):=by
 unfold ref14_Names at h
 refine xo Tryz.f14 rfl fun F0 w0 _=>?_
 refine Wp.seq (rg [1] [1] [(1,.own 1 0)] [(1,25,qc12 a0)] (To.thenN (Wp.seq (rr [] [(0,ls [])] [] [1,3] [1,8] [(1,.own 1 0),(3,.row 8)] [(1,25,qc12 a0),(8,9,[rc1 []])] [(MkOb 1 [] 0 (ls []) ∧ GoodR (ls []))] (AllP.cons (mkOb (by kernel_rfl) rfl (by kernel_rfl) (good_E_string _)) AllP.nil) (To.thenN (Wp.seq ?_))))))
 obtain ⟨r1,hr1,h⟩:=bind_of h
 refine rc [] 1 [3,4] [8] [(3,.row 8),(4,ls r1)] [(8,9,[rc1 []])] (ok_ref08_Texts n a0 _ hr1) (To.thenN (Wp.seq (Wp.seq (rg [3,4,5] [8] [(3,.row 8),(4,ls r1),(5,vi 0)] [(8,9,[rc1 []])] (To.thenN (Wp.block ?_))))))
 obtain ⟨o2,ho2,h⟩:=bind_of h
 refine kw [3,4,5] [8] [(3,.row 8),(4,ls r1),(5,vi 0)] [(8,9,[rc1 []])] (Wp.pre (St.settle (ks:=[8]) (kk:=[3,4,5]) (kl:=[8]) (K':=[(3,.row 8),(4,ls r1),(5,vi 0)]) (L':=[(8,9,[rc8 []])]) (by kernel_rfl)) (Wp.pre (St.sealK [3] (K':=[(3,ls []),(4,ls r1),(5,vi 0)]) (by kernel_rfl)) (kw [3,4,5] [] [(3,ls []),(4,ls r1),(5,vi 0)] [] (Wp.loopL (ok_ref14_Names_l1 n r1 n [] 0 o2 ho2 (To.blockX (To.thenN (Wp.seq (rg [2] [] [(2,ls o2)] [] (To.thenN (Wp.ret ?_)))))))))))
 cases h
 exact To.done hΓ (by kernel_rfl)
def law14_SubstNodes (n:Nat) (a0:S_api_Node) (a1:List (S_api_Var)):Option (Bool) :=
 (ref08_Small n a0 100).bind fun r1 =>
 ((if ((!r1) == false) = true then law12_Few n a1 60 else some false)).bind fun r2 =>
 if (bif (!r1) then true else (!r2)) = true then ((law14_awake n).bind fun r3 =>
 some r3)
 else ((ref12_Of n a1).bind fun r4 =>
 (subst_Node n a0 r4).bind fun r5 =>
 (ref14_Node n a0 r4).bind fun r6 =>
 (ref08_Same n r5.1 r6.1).bind fun r7 =>
 ((if ((bif r7 then (r5.2 == r6.2) else false) == true) = true then subst_Names n a0 else some [])).bind fun r8 =>
 ((if ((bif r7 then (r5.2 == r6.2) else false) == true) = true then ref14_Names n a0 else some [])).bind fun r9 =>
 ((if ((bif r7 then (r5.2 == r6.2) else false) == true) = true then ref02_Same n r8 r9 else some false)).bind fun r10 =>
 ((if ((bif (bif r7 then (r5.2 == r6.2) else false) then r10 else false) == true) = true then law14_awake n else some false)).bind fun r11 =>
 some (bif (bif (bif r7 then (r5.2 == r6.2) else false) then r10 else false) then r11 else false))
theorem ok_law14_SubstNodes (n:Nat) (a0:S_api_Node) (a1:List (S_api_Var)) (r:Bool) (h:law14_SubstNodes n a0 a1 = some r):CallsX Tryz.prog 3 [.agg (qc12 a0),rs15 a1] (vb r):=by
 unfold law14_SubstNodes at h
 refine xo Tryz.f3 rfl fun F0 w0 _=>?_
 refine Wp.seq (rg [1,2] [2] [(1,rs15 a1),(2,.own 2 0)] [(2,25,qc12 a0)] (To.thenN (Wp.seq (Wp.seq ?_))))
 obtain ⟨r1,hr1,h⟩:=bind_of h
 obtain ⟨r2,hr2,h⟩:=bind_of h
 refine rr [] [(1,vb r1),(5,vb r2)] [] [1,2,17] [2] [(1,rs15 a1),(2,.own 2 0),(17,vb (bif (!r1) then true else (!r2)))] [(2,25,qc12 a0)] [_,(((!r1) == false) = true → CX Tryz.prog 6 [rs15 a1,vi 60] (vb r2))] (AllP.cons (c1 (ok_ref08_Small n a0 100 _ hr1)) (AllP.cons (fun hg=>cx (ok_law12_Few n a1 60 _ (if_t hg hr2))) AllP.nil)) (To.thenN (cn h (fun h=>?_) (fun h=>?_)))
 ·refine Wp.seq ?_
  obtain ⟨r3,hr3,h⟩:=bind_of h
  refine rc [] 0 [4] [] [(4,vb r3)] [] (ok_law14_awake n  _ hr3) (To.thenN (Wp.ret (To.thenR ?_)))
  cases h
  exact To.done hΓ (by kernel_rfl)
 ·refine Wp.skip (To.thenN (Wp.seq ?_))
  obtain ⟨r4,hr4,h⟩:=bind_of h
  refine rc [] 1 [2,5] [2] [(2,.own 2 0),(5,rs15 r4)] [(2,25,qc12 a0)] (ok_ref12_Of n a1 _ hr4) (To.thenN (Wp.seq ?_))
  obtain ⟨r5,hr5,h⟩:=bind_of h
  refine rc [] 2 [2,5,6,7] [2,6] [(2,.own 2 0),(5,rs15 r4),(6,.own 6 0),(7,vi r5.2)] [(2,25,qc12 a0),(6,25,qc12 r5.1)] (ok_subst_Node n a0 r4 _ hr5) (To.thenN (Wp.seq ?_))
  obtain ⟨r6,hr6,h⟩:=bind_of h
  refine rc [] 2 [2,6,7,8,9] [2,6,8] [(2,.own 2 0),(6,.own 6 0),(7,vi r5.2),(8,.own 8 0),(9,vi r6.2)] [(2,25,qc12 a0),(6,25,qc12 r5.1),(8,25,qc12 r6.1)] (ok_ref14_Node n a0 r4 _ hr6) (To.thenN (Wp.seq ?_))
  obtain ⟨r7,hr7,h⟩:=bind_of h
  obtain ⟨r8,hr8,h⟩:=bind_of h
  obtain ⟨r9,hr9,h⟩:=bind_of h
  obtain ⟨r10,hr10,h⟩:=bind_of h
  obtain ⟨r11,hr11,h⟩:=bind_of h
  refine Wp.regionD hm hΓ [(2,vb r7),(10,ls r8),(12,ls r9),(13,vb r10),(16,vb r11)] [4] [] (K':=[(4,vb (bif (bif (bif r7 then (r5.2 == r6.2) else false) then r10 else false) then r11 else false))]) (L':=[]) (ob:=[(true = true → CX Tryz.prog 11 [.agg (qc12 r5.1),.agg (qc12 r6.1)] (vb r7)),(((bif r7 then (r5.2 == r6.2) else false) == true) = true → CX Tryz.prog 13 [.agg (qc12 a0)] (ls r8)),(((bif r7 then (r5.2 == r6.2) else false) == true) = true → CX Tryz.prog 14 [.agg (qc12 a0)] (ls r9)),(((bif r7 then (r5.2 == r6.2) else false) == true) = true → CX Tryz.prog 12 [ls r8,ls r9] (vb r10)),(((bif (bif r7 then (r5.2 == r6.2) else false) then r10 else false) == true) = true → CX Tryz.prog 7 [] (vb r11))]) (by kernel_rfl) (AllP.cons (fun _=>cx (ok_ref08_Same n r5.1 r6.1 _ hr7)) (AllP.cons (fun hg=>cx (ok_subst_Names n a0 _ (if_t hg hr8))) (AllP.cons (fun hg=>cx (ok_ref14_Names n a0 _ (if_t hg hr9))) (AllP.cons (fun hg=>cx (ok_ref02_Same n r8 r9 _ (if_t hg hr10))) (AllP.cons (fun hg=>cx (ok_law14_awake n  _ (if_t hg hr11))) AllP.nil))))) (To.thenN (Wp.ret ?_))
  cases h
  exact To.done hΓ (by kernel_rfl)
theorem opens_string:Opens Tryz.prog 9 (fun l:List UInt8=>l.length ≤ maxLen) (fun l=>[.str l]):=opens_str (by kernel_rfl)
theorem opens_i64:Opens Tryz.prog 3 (fun n:Int=>IntKind.min .i64 ≤ n ∧ n ≤ IntKind.max .i64) (fun n=>[.val (.int .i64 n)]):=opens_int (by kernel_rfl)
inductive W_tmpl_Part:S_tmpl_Part → Prop
 | mk (x:S_tmpl_Part) (h:(List.length x.f_Name ≤ maxLen) ∧ (List.length x.f_Text ≤ maxLen) ∧ (IntKind.min .i64 ≤ x.f_Op ∧ x.f_Op ≤ IntKind.max .i64)) (hl:x.f_Sub.length ≤ maxLen) (hk:∀ y ∈ x.f_Sub,W_tmpl_Part y):W_tmpl_Part x
def W_Lstring (l:List (List UInt8)):Prop:=l.length ≤ maxLen ∧ ∀ x ∈ l,(List.length x ≤ maxLen)
theorem opens_Lstring:Opens Tryz.prog 22 W_Lstring (fun l=>[.recs (α:=List UInt8) [] E_string l]):=opens_slice (α:=List UInt8) (cells:=E_string) [] (by kernel_rfl) (by kernel_rfl) (of_decide_eq_true (by kernel_rfl)) opens_string
inductive W_api_Node:S_api_Node → Prop
 | mk (x:S_api_Node) (h:(IntKind.min .i64 ≤ x.f_Kind ∧ x.f_Kind ≤ IntKind.max .i64) ∧ (List.length x.f_Text ≤ maxLen) ∧ (W_Lstring x.f_Keys)) (hl:x.f_Kids.length ≤ maxLen) (hk:∀ y ∈ x.f_Kids,W_api_Node y):W_api_Node x
theorem opens_api_Node:Opens Tryz.prog 25 W_api_Node tr_S_api_Node:=by
 refine opens_ind fun N ih=>?_
 intro H enc W fuel cs d ps hN h
 obtain ⟨hl,hf⟩:=field_ofN Tryz.underlying25 hN h
 have hl:cs.length = 4:=hl.trans (by kernel_rfl)
 obtain ⟨x0,w0,r0⟩:=hf 0 _ rfl (opens_i64.n N)
 have r0:=repAt (a':=0) (b':=1) r0 (by kernel_rfl) (by kernel_rfl)
 obtain ⟨x1,w1,r1⟩:=hf 1 _ rfl (opens_string.n N)
 have r1:=repAt (a':=1) (b':=1) r1 (by kernel_rfl) (by kernel_rfl)
 obtain ⟨x2,w2,r2⟩:=hf 2 _ rfl (opens_Lstring.n N)
 have r2:=repAt (a':=2) (b':=1) r2 (by kernel_rfl) (by kernel_rfl)
 obtain ⟨x3,w3,r3⟩:=hf 3 _ rfl (opensN_kids (α:=S_api_Node) (pre:=pre_S_api_Node) (kids:=kids_S_api_Node) (S_api_Node.mk 0 [] [] []) Tryz.underlying23 (by kernel_rfl) (of_decide_eq_true (by kernel_rfl)) ih)
 have r3:=repAt (a':=3) (b':=1) r3 (by kernel_rfl) (by kernel_rfl)
 refine ⟨⟨x0,x1,x2,x3⟩,.mk _ ⟨w0,w1,w2⟩ w3.1 w3.2,?_⟩
 exact parts_all (l:=[([.val (.int .i64 x0)],1),([.str x1],1),([.recs (α:=List UInt8) [] E_string x2],1),([.tree (α:=S_api_Node) (S_api_Node.mk 0 [] [] []) pre_S_api_Node kids_S_api_Node x3],1)]) ⟨r0,r1,r2,r3,Nat.le_of_eq hl⟩ rfl
def W_api_Var (x:S_api_Var):Prop:=(List.length x.f_Key ≤ maxLen) ∧ (List.length x.f_Val ≤ maxLen)
theorem opens_api_Var:Opens Tryz.prog 48 W_api_Var (fun x=>[.str x.f_Key,.str x.f_Val]):=by
 intro H enc W fuel cs d ps h
 obtain ⟨hl,hf⟩:=field_of Tryz.underlying48 h
 have hl:cs.length = 2:=hl.trans (by kernel_rfl)
 obtain ⟨x0,w0,r0⟩:=hf 0 _ rfl opens_string
 have r0:=repAt (a':=0) (b':=1) r0 (by kernel_rfl) (by kernel_rfl)
 obtain ⟨x1,w1,r1⟩:=hf 1 _ rfl opens_string
 have r1:=repAt (a':=1) (b':=1) r1 (by kernel_rfl) (by kernel_rfl)
 refine ⟨⟨x0,x1⟩,⟨w0,w1⟩,?_⟩
 refine parts_all (l:=[([.str x0],1),([.str x1],1)]) ⟨r0,r1,Nat.le_of_eq hl⟩ rfl
def W_Lapi_Var (l:List (S_api_Var)):Prop:=l.length ≤ maxLen ∧ ∀ x ∈ l,(W_api_Var x)
theorem opens_Lapi_Var:Opens Tryz.prog 26 W_Lapi_Var (fun l=>[.recs (α:=S_api_Var) (S_api_Var.mk [] []) E_api_Var l]):=opens_slice (α:=S_api_Var) (cells:=E_api_Var) (S_api_Var.mk [] []) (by kernel_rfl) (by kernel_rfl) (of_decide_eq_true (by kernel_rfl)) opens_api_Var
end Go.Proofs.YtibgdilkodjojaaGreatDoor.M
