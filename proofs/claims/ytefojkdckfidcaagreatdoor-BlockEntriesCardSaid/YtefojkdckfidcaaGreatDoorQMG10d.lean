import Derived.Test.YtefojkdckfidcaaGreatDoorQMG10c
set_option linter.all false
namespace Go.Proofs.YtefojkdckfidcaaGreatDoor.M
open Go.RowKit Go.Proofs.YtefojkdckfidcaaGreatDoor.RX
set_option maxRecDepth 100000
theorem ok_block_reader_pairs__o0_l1 (R_block_reader_block__o0_s2 : S_block_reader → Option (S_api_Node × S_block_reader)) (hR_block_reader_block__o0_s2 : hR11 R_block_reader_block__o0_s2) (n : Nat) (v1 : Int) {F0 : Fz} {w0 : Pt Tryz.prog} {Q : Exit → Act → World → Prop} (k : Nat) : ∀ (b4 : S_api_Node) (b5 : S_api_Node) (b1000000 : S_block_reader) (o : Sum (S_api_Node × S_api_Node × S_block_reader) (S_api_Node × S_block_reader)), block_reader_pairs__o0_l1 R_block_reader_block__o0_s2 n v1 k b4 b5 b1000000 = some o → (Sum.elim (fun s => To 114 F0 w0 [(4, .own 4 0), (5, .own 5 0)] [(4, 26, qc9 s.1), (5, 26, qc20 4302 4303 s.2.1), (4302, 9, [rc21 s.2.1.f_Keys]), (4303, 26, [rc12 s.2.1.f_Kids]), (504000, 50, [rc5 s.2.2.f_l]), (1000000, 46, qc10 504000 s.2.2)] (.exit 0) Q) (fun s => To 114 F0 w0 [(4, .own 4 0)] [(4, 26, qc9 s.1), (504000, 50, [rc5 s.2.f_l]), (1000000, 46, qc10 504000 s.2)] .ret Q)) o → WL Tryz.prog 114 F0 w0 [(0, .own 1000000 0), (1, vi v1), (4, .own 4 0), (5, .own 5 0)] [(4, 26, qc9 b4), (5, 26, qc20 4302 4303 b5), (4302, 9, [rc21 b5.f_Keys]), (4303, 26, [rc12 b5.f_Kids]), (504000, 50, [rc5 b1000000.f_l]), (1000000, 46, qc10 504000 b1000000)] (cI (cI (cA (cB (cB (cI (cB (cF Tryz.f56)))))))) Q := by
  induction k with
  | zero => intro b4 b5 b1000000 o h; cases h
  | succ k ih =>
    intro b4 b5 b1000000 o h hQ
    rw [block_reader_pairs__o0_l1] at h
    refine WL.round (Wp.seq (Wp.seq ?_))
    refine Wp.regionD hm hΓ [] [0, 1, 4, 5, 28] [4, 5, 4302, 4303, 504000, 1000000] (K' := [(0, .own 1000000 0), (1, vi v1), (4, .own 4 0), (5, .own 5 0), (28, vb (bif (b1000000.f_e == 0) then (decide (b1000000.f_at < (List.length b1000000.f_l : Int))) else false))]) (L' := [(4, 26, qc9 b4), (5, 26, qc20 4302 4303 b5), (4302, 9, [rc21 b5.f_Keys]), (4303, 26, [rc12 b5.f_Kids]), (504000, 50, [rc5 b1000000.f_l]), (1000000, 46, qc10 504000 b1000000)]) (ob := []) (by kernel_rfl) AllP.nil ?_
    refine To.thenN ?_
    refine Wp.cond (b := (bif (b1000000.f_e == 0) then (decide (b1000000.f_at < (List.length b1000000.f_l : Int))) else false)) (by kernel_rfl) (fun hb => ?_) (fun hb => ?_)
    · replace h := if_t hb h
      refine Wp.skip (To.thenN (Wp.block (Wp.seq ?_)))
      obtain ⟨hc9, h⟩ := chk_of h
      refine Wp.regionD hm hΓ [] [0, 1, 4, 5, 6] [4, 5, 6, 4302, 4303, 504000, 1000000] (K' := [(0, .own 1000000 0), (1, vi v1), (4, .own 4 0), (5, .own 5 0), (6, .own 6 0)]) (L' := [(4, 26, qc9 b4), (5, 26, qc20 4302 4303 b5), (6, 50, [vi (((b1000000.f_l)[Int.toNat b1000000.f_at]?.getD zx4).f_No), vi (((b1000000.f_l)[Int.toNat b1000000.f_at]?.getD zx4).f_Indent), .str (((b1000000.f_l)[Int.toNat b1000000.f_at]?.getD zx4).f_Text)]), (4302, 9, [rc21 b5.f_Keys]), (4303, 26, [rc12 b5.f_Kids]), (504000, 50, [rc5 b1000000.f_l]), (1000000, 46, qc10 504000 b1000000)]) (ob := [(decide (0 ≤ b1000000.f_at ∧ b1000000.f_at < (List.length b1000000.f_l : Int))) = true, (decide (0 ≤ b1000000.f_at ∧ b1000000.f_at < (List.length b1000000.f_l : Int))) = true]) (by kernel_rfl) (AllP.cons hc9 (AllP.cons hc9 AllP.nil)) ?_
      refine To.thenN (Wp.seq ?_)
      obtain ⟨r1, hr1, h⟩ := bind_of h
      refine rr [] [(2, .tup [.str r1.1, .str r1.2.1, vi r1.2.2])] [] [0, 1, 4, 5, 6, 7, 8, 9] [4, 5, 6, 4302, 4303, 504000, 1000000] [(0, .own 1000000 0), (1, vi v1), (4, .own 4 0), (5, .own 5 0), (6, .own 6 0), (7, .str r1.1), (8, .str r1.2.1), (9, vi r1.2.2)] [(4, 26, qc9 b4), (5, 26, qc20 4302 4303 b5), (6, 50, [vi (((b1000000.f_l)[Int.toNat b1000000.f_at]?.getD zx4).f_No), vi (((b1000000.f_l)[Int.toNat b1000000.f_at]?.getD zx4).f_Indent), .str (((b1000000.f_l)[Int.toNat b1000000.f_at]?.getD zx4).f_Text)]), (4302, 9, [rc21 b5.f_Keys]), (4303, 26, [rc12 b5.f_Kids]), (504000, 50, [rc5 b1000000.f_l]), (1000000, 46, qc10 504000 b1000000)] [(true = true → CX Tryz.prog 12 [.str (((b1000000.f_l)[Int.toNat b1000000.f_at]?.getD zx4).f_Text)] (.tup [.str r1.1, .str r1.2.1, vi r1.2.2]))] (AllP.cons (fun _ => cx (ok_block_Entry n (((b1000000.f_l)[Int.toNat b1000000.f_at]?.getD zx4).f_Text) _ hr1)) AllP.nil) ?_
      refine To.thenN (Wp.seq (Wp.block (Wp.seq ?_)))
      obtain ⟨r2, hr2, h⟩ := bind_of h
      obtain ⟨x3, hx3, h⟩ := lett_of h
      refine rr [] [(19, vb r2)] [] [0, 1, 4, 5, 6, 7, 8, 9, 46] [4, 5, 6, 4302, 4303, 504000, 1000000] [(0, .own 1000000 0), (1, vi v1), (4, .own 4 0), (5, .own 5 0), (6, .own 6 0), (7, .str r1.1), (8, .str r1.2.1), (9, vi r1.2.2), (46, vb (bif (decide ((((b1000000.f_l)[Int.toNat b1000000.f_at]?.getD zx4).f_Indent) > v1)) then true else (bif ((((b1000000.f_l)[Int.toNat b1000000.f_at]?.getD zx4).f_Indent) == v1) then (bif (decide (r1.2.2 < 0)) then true else (bif (decide (r1.2.2 > 0)) then r2 else false)) else false)))] [(4, 26, qc9 b4), (5, 26, qc20 4302 4303 b5), (6, 50, [vi (((b1000000.f_l)[Int.toNat b1000000.f_at]?.getD zx4).f_No), vi (((b1000000.f_l)[Int.toNat b1000000.f_at]?.getD zx4).f_Indent), .str (((b1000000.f_l)[Int.toNat b1000000.f_at]?.getD zx4).f_Text)]), (4302, 9, [rc21 b5.f_Keys]), (4303, 26, [rc12 b5.f_Kids]), (504000, 50, [rc5 b1000000.f_l]), (1000000, 46, qc10 504000 b1000000)] [((((decide (r1.2.2 > 0)) == true) && (((decide (r1.2.2 < 0)) == false) && ((((((b1000000.f_l)[Int.toNat b1000000.f_at]?.getD zx4).f_Indent) == v1) == true) && ((decide ((((b1000000.f_l)[Int.toNat b1000000.f_at]?.getD zx4).f_Indent) > v1)) == false)))) = true → CX Tryz.prog 88 [ls b5.f_Keys, .str r1.1] (vb r2))] (AllP.cons (fun hg => cx (ok_name_In n b5.f_Keys r1.1 _ (if_t hg hr2))) AllP.nil) ?_
      refine To.eq (K' := [(0, .own 1000000 0), (1, vi v1), (4, .own 4 0), (5, .own 5 0), (6, .own 6 0), (7, .str r1.1), (8, .str r1.2.1), (9, vi r1.2.2), (46, vb x3)]) (L' := [(4, 26, qc9 b4), (5, 26, qc20 4302 4303 b5), (6, 50, [vi (((b1000000.f_l)[Int.toNat b1000000.f_at]?.getD zx4).f_No), vi (((b1000000.f_l)[Int.toNat b1000000.f_at]?.getD zx4).f_Indent), .str (((b1000000.f_l)[Int.toNat b1000000.f_at]?.getD zx4).f_Text)]), (4302, 9, [rc21 b5.f_Keys]), (4303, 26, [rc12 b5.f_Kids]), (504000, 50, [rc5 b1000000.f_l]), (1000000, 46, qc10 504000 b1000000)]) (by cases hx3; rfl) (by cases hx3; rfl) ?_
      refine To.thenN ?_
      refine Wp.cond (b := x3) (by kernel_rfl) (fun hb => ?_) (fun hb => ?_)
      · replace h := if_t hb h
        refine Wp.seq ?_
        obtain ⟨r4, hr4, h⟩ := lett_of h
        refine rr [] [] [(3, ⟨[(1000000, 1000000), (1010000, 504000)], [(200, 504000), (1000000, 1000000)], [.own 1000000 0, vi (((b1000000.f_l)[Int.toNat b1000000.f_at]?.getD zx4).f_No), vi 3], [(1000000, 46, qc10 1010000 b1000000), (1010000, 50, [rc5 b1000000.f_l])], .agg (qc9 r4.1), [(200, 50, [rc5 r4.2.f_l]), (1000000, 46, qc10 200 r4.2)]⟩)] [4] [4, 504000, 1000000] [(4, .own 4 0)] [(4, 26, qc9 r4.1), (504000, 50, [rc5 r4.2.f_l]), (1000000, 46, qc10 504000 r4.2)] [CbOb (CallsB Tryz.prog) 25 [.own 1000000 0, vi (((b1000000.f_l)[Int.toNat b1000000.f_at]?.getD zx4).f_No), vi 3] [some (46, qc10 504000 b1000000), some (50, [rc5 b1000000.f_l])] ⟨[(1000000, 1000000), (1010000, 504000)], [(200, 504000), (1000000, 1000000)], [.own 1000000 0, vi (((b1000000.f_l)[Int.toNat b1000000.f_at]?.getD zx4).f_No), vi 3], [(1000000, 46, qc10 1010000 b1000000), (1010000, 50, [rc5 b1000000.f_l])], .agg (qc9 r4.1), [(200, 50, [rc5 r4.2.f_l]), (1000000, 46, qc10 200 r4.2)]⟩] (AllP.cons (⟨(ok_block_reader_fail__o0_s2 (((b1000000.f_l)[Int.toNat b1000000.f_at]?.getD zx4).f_No) 3 b1000000 _ hr4), by kernel_rfl, by kernel_rfl⟩) AllP.nil) ?_
        refine To.thenN (Wp.ret (To.blockR (To.thenR (To.blockR (To.thenR ?_)))))
        refine kt [4] [4, 504000, 1000000] [(4, .own 4 0)] [(4, 26, qc9 r4.1), (504000, 50, [rc5 r4.2.f_l]), (1000000, 46, qc10 504000 r4.2)] ?_
        cases h
        exact hQ
      · replace h := if_f hb h
        refine Wp.seq ?_
        obtain ⟨x5, hx5, h⟩ := lett_of h
        refine rg [0, 1, 4, 5, 6, 7, 8, 75] [4, 5, 6, 4302, 4303, 504000, 1000000] [(0, .own 1000000 0), (1, vi v1), (4, .own 4 0), (5, .own 5 0), (6, .own 6 0), (7, .str r1.1), (8, .str r1.2.1), (75, vb (bif (decide ((((b1000000.f_l)[Int.toNat b1000000.f_at]?.getD zx4).f_Indent) < v1)) then true else (r1.2.2 == 0)))] [(4, 26, qc9 b4), (5, 26, qc20 4302 4303 b5), (6, 50, [vi (((b1000000.f_l)[Int.toNat b1000000.f_at]?.getD zx4).f_No), vi (((b1000000.f_l)[Int.toNat b1000000.f_at]?.getD zx4).f_Indent), .str (((b1000000.f_l)[Int.toNat b1000000.f_at]?.getD zx4).f_Text)]), (4302, 9, [rc21 b5.f_Keys]), (4303, 26, [rc12 b5.f_Kids]), (504000, 50, [rc5 b1000000.f_l]), (1000000, 46, qc10 504000 b1000000)] ?_
        refine To.eq (K' := [(0, .own 1000000 0), (1, vi v1), (4, .own 4 0), (5, .own 5 0), (6, .own 6 0), (7, .str r1.1), (8, .str r1.2.1), (75, vb x5)]) (L' := [(4, 26, qc9 b4), (5, 26, qc20 4302 4303 b5), (6, 50, [vi (((b1000000.f_l)[Int.toNat b1000000.f_at]?.getD zx4).f_No), vi (((b1000000.f_l)[Int.toNat b1000000.f_at]?.getD zx4).f_Indent), .str (((b1000000.f_l)[Int.toNat b1000000.f_at]?.getD zx4).f_Text)]), (4302, 9, [rc21 b5.f_Keys]), (4303, 26, [rc12 b5.f_Kids]), (504000, 50, [rc5 b1000000.f_l]), (1000000, 46, qc10 504000 b1000000)]) (by cases hx5; rfl) (by cases hx5; rfl) ?_
        refine To.thenN ?_
        refine Wp.cond (b := x5) (by kernel_rfl) (fun hb => ?_) (fun hb => ?_)
        · replace h := if_t hb h
          refine Wp.exit (To.blockO (by decide) (To.thenX (To.blockO (by decide) (To.thenX ?_))))
          refine kt [4, 5] [4, 5, 4302, 4303, 504000, 1000000] [(4, .own 4 0), (5, .own 5 0)] [(4, 26, qc9 b4), (5, 26, qc20 4302 4303 b5), (4302, 9, [rc21 b5.f_Keys]), (4303, 26, [rc12 b5.f_Kids]), (504000, 50, [rc5 b1000000.f_l]), (1000000, 46, qc10 504000 b1000000)] ?_
          cases h
          exact hQ
        · replace h := if_f hb h
          refine Wp.skip (To.blockN (To.thenN (Wp.seq ?_)))
          refine rg [0, 1, 4, 5, 6, 7, 8] [4, 5, 6, 4302, 4303, 504000, 1000000] [(0, .own 1000000 0), (1, vi v1), (4, .own 4 0), (5, .own 5 0), (6, .own 6 0), (7, .str r1.1), (8, .str r1.2.1)] [(4, 26, qc9 b4), (5, 26, qc20 4302 4303 b5), (6, 50, [vi (((b1000000.f_l)[Int.toNat b1000000.f_at]?.getD zx4).f_No), vi (((b1000000.f_l)[Int.toNat b1000000.f_at]?.getD zx4).f_Indent), .str (((b1000000.f_l)[Int.toNat b1000000.f_at]?.getD zx4).f_Text)]), (4302, 9, [rc21 b5.f_Keys]), (4303, 26, [rc12 b5.f_Kids]), (504000, 50, [rc5 b1000000.f_l]), (1000000, 46, [.row 504000, vi (IntKind.wrap .i64 (b1000000.f_at + 1)), vi b1000000.f_no, vi b1000000.f_e])] ?_
          refine To.thenN (Wp.seq ?_)
          refine rg [0, 1, 4, 5, 6, 7, 8, 10] [4, 5, 6, 10, 4302, 4303, 504000, 1000000] [(0, .own 1000000 0), (1, vi v1), (4, .own 4 0), (5, .own 5 0), (6, .own 6 0), (7, .str r1.1), (8, .str r1.2.1), (10, .own 10 0)] [(4, 26, qc9 b4), (5, 26, qc20 4302 4303 b5), (6, 50, [vi (((b1000000.f_l)[Int.toNat b1000000.f_at]?.getD zx4).f_No), vi (((b1000000.f_l)[Int.toNat b1000000.f_at]?.getD zx4).f_Indent), .str (((b1000000.f_l)[Int.toNat b1000000.f_at]?.getD zx4).f_Text)]), (10, 26, [vi 0, .str [], .val (.slice none 0 0), .val (.slice none 0 0)]), (4302, 9, [rc21 b5.f_Keys]), (4303, 26, [rc12 b5.f_Kids]), (504000, 50, [rc5 b1000000.f_l]), (1000000, 46, [.row 504000, vi (IntKind.wrap .i64 (b1000000.f_at + 1)), vi b1000000.f_no, vi b1000000.f_e])] ?_
          refine To.thenN (Wp.seq (Wp.seq ?_))
          refine rg [0, 1, 4, 5, 6, 7, 8, 10, 92] [4, 5, 6, 10, 4302, 4303, 504000, 1000000] [(0, .own 1000000 0), (1, vi v1), (4, .own 4 0), (5, .own 5 0), (6, .own 6 0), (7, .str r1.1), (8, .str r1.2.1), (10, .own 10 0), (92, vb (!(r1.2.1 == [])))] [(4, 26, qc9 b4), (5, 26, qc20 4302 4303 b5), (6, 50, [vi (((b1000000.f_l)[Int.toNat b1000000.f_at]?.getD zx4).f_No), vi (((b1000000.f_l)[Int.toNat b1000000.f_at]?.getD zx4).f_Indent), .str (((b1000000.f_l)[Int.toNat b1000000.f_at]?.getD zx4).f_Text)]), (10, 26, [vi 0, .str [], .val (.slice none 0 0), .val (.slice none 0 0)]), (4302, 9, [rc21 b5.f_Keys]), (4303, 26, [rc12 b5.f_Kids]), (504000, 50, [rc5 b1000000.f_l]), (1000000, 46, [.row 504000, vi (IntKind.wrap .i64 (b1000000.f_at + 1)), vi b1000000.f_no, vi b1000000.f_e])] ?_
          refine To.thenN ?_
          obtain ⟨o6, ho6, h⟩ := bind_of h
          refine kw [0, 1, 4, 5, 6, 7, 8, 10, 92] [4, 5, 6, 10, 4302, 4303, 504000, 1000000] [(0, .own 1000000 0), (1, vi v1), (4, .own 4 0), (5, .own 5 0), (6, .own 6 0), (7, .str r1.1), (8, .str r1.2.1), (10, .own 10 0), (92, vb (!(r1.2.1 == [])))] [(4, 26, qc9 b4), (5, 26, qc20 4302 4303 b5), (6, 50, [vi (((b1000000.f_l)[Int.toNat b1000000.f_at]?.getD zx4).f_No), vi (((b1000000.f_l)[Int.toNat b1000000.f_at]?.getD zx4).f_Indent), .str (((b1000000.f_l)[Int.toNat b1000000.f_at]?.getD zx4).f_Text)]), (10, 26, [vi 0, .str [], .val (.slice none 0 0), .val (.slice none 0 0)]), (4302, 9, [rc21 b5.f_Keys]), (4303, 26, [rc12 b5.f_Kids]), (504000, 50, [rc5 b1000000.f_l]), (1000000, 46, [.row 504000, vi (IntKind.wrap .i64 (b1000000.f_at + 1)), vi b1000000.f_no, vi b1000000.f_e])] ?_
          refine Wp.weak (K' := [(0, .own 1000000 0), (1, vi v1), (4, .own 4 0), (5, .own 5 0), (6, .own 6 0), (7, .str r1.1), (8, .str r1.2.1), (10, .own 10 0), (92, vb (!(r1.2.1 == [])))]) (L' := [(4, 26, qc9 b4), (5, 26, qc20 4302 4303 b5), (6, 50, [vi (((b1000000.f_l)[Int.toNat b1000000.f_at]?.getD zx4).f_No), vi (((b1000000.f_l)[Int.toNat b1000000.f_at]?.getD zx4).f_Indent), .str (((b1000000.f_l)[Int.toNat b1000000.f_at]?.getD zx4).f_Text)]), (10, 26, [vi 0, .str [], ls [], tn8 []]), (4302, 9, [rc21 b5.f_Keys]), (4303, 26, [rc12 b5.f_Kids]), (504000, 50, [rc5 b1000000.f_l]), (1000000, 46, [.row 504000, vi (IntKind.wrap .i64 (b1000000.f_at + 1)), vi b1000000.f_no, vi b1000000.f_e])]) (.cons (.refl _) (.cons (.refl _) (.cons (.refl _) (.cons (.refl _) (.cons (.refl _) (.cons (.refl _) (.cons (.refl _) (.cons (.refl _) (.cons (.refl _) .nil))))))))) (.cons (.cons (.refl _) (.cons (.refl _) (.cons (.refl _) (.cons (.refl _) .nil)))) (.cons (.cons (.refl _) (.cons (.refl _) (.cons (.refl _) (.cons (.refl _) .nil)))) (.cons (.cons (.refl _) (.cons (.refl _) (.cons (.refl _) .nil))) (.cons (.cons (.refl _) (.cons (.refl _) (.cons (.zero _ _) (.cons (.zeroT _ _ _) .nil)))) (.cons (.cons (.refl _) .nil) (.cons (.cons (.refl _) .nil) (.cons (.cons (.refl _) .nil) (.cons (.cons (.refl _) (.cons (.refl _) (.cons (.refl _) (.cons (.refl _) .nil)))) .nil)))))))) ?_
          refine ok_block_reader_pairs__o0_j2 R_block_reader_block__o0_s2 hR_block_reader_block__o0_s2 n v1 r1.1 r1.2.1 (!(r1.2.1 == [])) b4 b5 ((b1000000.f_l)[Int.toNat b1000000.f_at]?.getD zx4) zx7 (S_block_reader.mk b1000000.f_l (IntKind.wrap .i64 (b1000000.f_at + 1)) b1000000.f_no b1000000.f_e) o6 ho6 ?_
          refine To.thenN ?_
          obtain ⟨hc7, h⟩ := chk_of h
          obtain ⟨hc8, h⟩ := chk_of h
          refine Wp.regionO hm hΓ [] [(3, ls [r1.1]), (4, ls (b5.f_Keys ++ ([r1.1] : List (List UInt8)))), (8, rs13 [o6.1]), (9, rs13 (b5.f_Kids ++ ([o6.1] : List (S_api_Node))))] [] [0, 1, 4, 5, 7, 10, 101, 102, 103, 104, 105, 106, 107, 108, 109, 110, 111, 112] [4, 5, 10, 104, 105, 109, 110, 4302, 4303, 504000, 1000000] [0, 1, 4, 5] [4, 5, 105, 110, 504000, 1000000] (K' := [(0, .own 1000000 0), (1, vi v1), (4, .own 4 0), (5, .own 5 0)]) (L' := [(4, 26, qc9 b4), (5, 26, qc20 105 110 b5), (105, 9, [rc21 (b5.f_Keys ++ ([r1.1] : List (List UInt8)))]), (110, 26, [rc12 (b5.f_Kids ++ ([o6.1] : List (S_api_Node)))]), (504000, 50, [rc5 o6.2.f_l]), (1000000, 46, qc10 504000 o6.2)]) (ob := [(MkOb 1 [.str r1.1] 1 (ls [r1.1]) ∧ GoodR (ls [r1.1])), (decide ((List.length b5.f_Keys + List.length ([r1.1] : List (List UInt8))) * (16 + 1) ≤ limit)) = true, (AppOb [] E_string b5.f_Keys (List.flatMap E_string ([r1.1] : List (List UInt8))) (List.length ([r1.1] : List (List UInt8))) (ls (b5.f_Keys ++ ([r1.1] : List (List UInt8)))) ∧ GoodR (ls (b5.f_Keys ++ ([r1.1] : List (List UInt8))))), (MkOb 4 (qc9 o6.1) 1 (rs13 [o6.1]) ∧ GoodR (rs13 [o6.1])), (decide ((List.length b5.f_Kids + List.length ([o6.1] : List (S_api_Node))) * (72 + 1) ≤ limit)) = true, (AppOb zx7 E_api_Node b5.f_Kids (List.flatMap E_api_Node ([o6.1] : List (S_api_Node))) (List.length ([o6.1] : List (S_api_Node))) (rs13 (b5.f_Kids ++ ([o6.1] : List (S_api_Node)))) ∧ GoodR (rs13 (b5.f_Kids ++ ([o6.1] : List (S_api_Node)))))]) (by kernel_rfl) (by kernel_rfl) (AllP.cons (mkOb (by kernel_rfl) rfl (by kernel_rfl) (good_E_string _)) (AllP.cons hc7 (AllP.cons (appOb rfl rfl (good_E_string _)) (AllP.cons (mkOb (by kernel_rfl) rfl (by kernel_rfl) (good_E_api_Node _)) (AllP.cons hc8 (AllP.cons (appOb rfl rfl (good_E_api_Node _)) AllP.nil)))))) ?_
          refine To.blockN ?_
          refine kt [0, 1, 4, 5] [4, 5, 105, 110, 504000, 1000000] [(0, .own 1000000 0), (1, vi v1), (4, .own 4 0), (5, .own 5 0)] [(4, 26, qc9 b4), (5, 26, qc20 105 110 b5), (105, 9, [rc21 (b5.f_Keys ++ ([r1.1] : List (List UInt8)))]), (110, 26, [rc12 (b5.f_Kids ++ ([o6.1] : List (S_api_Node)))]), (504000, 50, [rc5 o6.2.f_l]), (1000000, 46, qc10 504000 o6.2)] ?_
          refine To.pre (St.rename 105 4302 (by decide) (K' := [(0, .own 1000000 0), (1, vi v1), (4, .own 4 0), (5, .own 5 0)]) (L' := [(4, 26, qc9 b4), (5, 26, qc20 4302 110 b5), (4302, 9, [rc21 (b5.f_Keys ++ ([r1.1] : List (List UInt8)))]), (110, 26, [rc12 (b5.f_Kids ++ ([o6.1] : List (S_api_Node)))]), (504000, 50, [rc5 o6.2.f_l]), (1000000, 46, qc10 504000 o6.2)]) (by kernel_rfl) (by kernel_rfl) (by kernel_rfl)) ?_
          refine kt [0, 1, 4, 5] [4, 5, 110, 4302, 504000, 1000000] [(0, .own 1000000 0), (1, vi v1), (4, .own 4 0), (5, .own 5 0)] [(4, 26, qc9 b4), (5, 26, qc20 4302 110 b5), (110, 26, [rc12 (b5.f_Kids ++ ([o6.1] : List (S_api_Node)))]), (4302, 9, [rc21 (b5.f_Keys ++ ([r1.1] : List (List UInt8)))]), (504000, 50, [rc5 o6.2.f_l]), (1000000, 46, qc10 504000 o6.2)] ?_
          refine To.pre (St.rename 110 4303 (by decide) (K' := [(0, .own 1000000 0), (1, vi v1), (4, .own 4 0), (5, .own 5 0)]) (L' := [(4, 26, qc9 b4), (5, 26, qc20 4302 4303 b5), (4303, 26, [rc12 (b5.f_Kids ++ ([o6.1] : List (S_api_Node)))]), (4302, 9, [rc21 (b5.f_Keys ++ ([r1.1] : List (List UInt8)))]), (504000, 50, [rc5 o6.2.f_l]), (1000000, 46, qc10 504000 o6.2)]) (by kernel_rfl) (by kernel_rfl) (by kernel_rfl)) ?_
          refine kt [0, 1, 4, 5] [4, 5, 4302, 4303, 504000, 1000000] [(0, .own 1000000 0), (1, vi v1), (4, .own 4 0), (5, .own 5 0)] [(4, 26, qc9 b4), (5, 26, qc20 4302 4303 b5), (4302, 9, [rc21 (b5.f_Keys ++ ([r1.1] : List (List UInt8)))]), (4303, 26, [rc12 (b5.f_Kids ++ ([o6.1] : List (S_api_Node)))]), (504000, 50, [rc5 o6.2.f_l]), (1000000, 46, qc10 504000 o6.2)] ?_
          refine To.again ?_
          exact ih b4 (S_api_Node.mk b5.f_Kind b5.f_Text (b5.f_Keys ++ ([r1.1] : List (List UInt8))) (b5.f_Kids ++ ([o6.1] : List (S_api_Node)))) o6.2 _ h hQ
    · replace h := if_f hb h
      refine Wp.exit (To.thenX (To.thenX ?_))
      refine kt [4, 5] [4, 5, 4302, 4303, 504000, 1000000] [(4, .own 4 0), (5, .own 5 0)] [(4, 26, qc9 b4), (5, 26, qc20 4302 4303 b5), (4302, 9, [rc21 b5.f_Keys]), (4303, 26, [rc12 b5.f_Kids]), (504000, 50, [rc5 b1000000.f_l]), (1000000, 46, qc10 504000 b1000000)] ?_
      cases h
      exact hQ
def block_reader_pairs__o0 (R_block_reader_block__o0_s2 : S_block_reader → Option (S_api_Node × S_block_reader)) (n : Nat) (a1 : Int) (h0 : S_block_reader) : Option (S_api_Node × S_block_reader) :=
  (block_reader_pairs__o0_l1 R_block_reader_block__o0_s2 n a1 n (S_api_Node.mk 0 [] [] []) (S_api_Node.mk 3 [] [] []) h0).bind fun o1 =>
  (Sum.elim (fun o1 => some (o1.2.1, o1.2.2)) (fun o1 => some (o1.1, o1.2))) o1
theorem ok_block_reader_pairs__o0 (R_block_reader_block__o0_s2 : S_block_reader → Option (S_api_Node × S_block_reader)) (hR_block_reader_block__o0_s2 : hR11 R_block_reader_block__o0_s2) (n : Nat) (a1 : Int) (h0 : S_block_reader) (r : S_api_Node × S_block_reader) (h : block_reader_pairs__o0 R_block_reader_block__o0_s2 n a1 h0 = some r) : CallsB Tryz.prog 56 [.own 1000000 0, vi a1] [(1000000, 46, qc10 1010000 h0), (1010000, 50, [rc5 h0.f_l])] (.agg (qc9 r.1)) [(200, 50, [rc5 r.2.f_l]), (1000000, 46, qc10 200 r.2)] := by
  unfold block_reader_pairs__o0 at h
  refine callsB_of (fn := Tryz.f56) (by kernel_rfl) rfl (by kernel_rfl) (Nat.le_of_ble_eq_true (by kernel_rfl)) fun F0 w0 => ?_
  refine kw [0, 1] [1000000, 1010000] [(0, .own 1000000 0), (1, vi a1)] [(1000000, 46, qc10 1010000 h0), (1010000, 50, [rc5 h0.f_l])] ?_
  refine Wp.pre (St.rename 1010000 504000 (by decide) (K' := [(0, .own 1000000 0), (1, vi a1)]) (L' := [(1000000, 46, qc10 504000 h0), (504000, 50, [rc5 h0.f_l])]) (by kernel_rfl) (by kernel_rfl) (by kernel_rfl)) ?_
  refine kw [0, 1] [504000, 1000000] [(0, .own 1000000 0), (1, vi a1)] [(504000, 50, [rc5 h0.f_l]), (1000000, 46, qc10 504000 h0)] ?_
  refine Wp.seq ?_
  refine rg [0, 1, 4] [4, 504000, 1000000] [(0, .own 1000000 0), (1, vi a1), (4, .own 4 0)] [(4, 26, [vi 0, .str [], .val (.slice none 0 0), .val (.slice none 0 0)]), (504000, 50, [rc5 h0.f_l]), (1000000, 46, qc10 504000 h0)] ?_
  refine To.thenN ?_
  refine Wp.scope ?_
  refine Wp.seq ?_
  refine rg [0, 1, 4, 5] [4, 5, 504000, 1000000] [(0, .own 1000000 0), (1, vi a1), (4, .own 4 0), (5, .own 5 0)] [(4, 26, [vi 0, .str [], .val (.slice none 0 0), .val (.slice none 0 0)]), (5, 26, [vi 3, .str [], .val (.slice none 0 0), .val (.slice none 0 0)]), (504000, 50, [rc5 h0.f_l]), (1000000, 46, qc10 504000 h0)] ?_
  refine To.thenN (Wp.seq ?_)
  refine Wp.label ?_
  refine To.thenN (Wp.seq (Wp.block ?_))
  obtain ⟨o1, ho1, h⟩ := bind_of h
  refine kw [0, 1, 4, 5] [4, 5, 504000, 1000000] [(0, .own 1000000 0), (1, vi a1), (4, .own 4 0), (5, .own 5 0)] [(4, 26, [vi 0, .str [], .val (.slice none 0 0), .val (.slice none 0 0)]), (5, 26, [vi 3, .str [], .val (.slice none 0 0), .val (.slice none 0 0)]), (504000, 50, [rc5 h0.f_l]), (1000000, 46, qc10 504000 h0)] ?_
  refine Wp.pre (St.vacantB 5 2 4302 9 (good_E_string _) (by decide) (by kernel_rfl) (L' := [(4, 26, [vi 0, .str [], .val (.slice none 0 0), .val (.slice none 0 0)]), (5, 26, [vi 3, .str [], .row 4302, .val (.slice none 0 0)]), (504000, 50, [rc5 h0.f_l]), (1000000, 46, qc10 504000 h0)]) (by kernel_rfl)) ?_
  refine kw [0, 1, 4, 5] [4, 5, 4302, 504000, 1000000] [(0, .own 1000000 0), (1, vi a1), (4, .own 4 0), (5, .own 5 0)] [(4, 26, [vi 0, .str [], .val (.slice none 0 0), .val (.slice none 0 0)]), (5, 26, [vi 3, .str [], .row 4302, .val (.slice none 0 0)]), (4302, 9, [rc19 []]), (504000, 50, [rc5 h0.f_l]), (1000000, 46, qc10 504000 h0)] ?_
  refine Wp.pre (St.settle (ks := [4302]) (kk := [0, 1, 4, 5]) (kl := [4, 5, 4302, 504000, 1000000]) (K' := [(0, .own 1000000 0), (1, vi a1), (4, .own 4 0), (5, .own 5 0)]) (L' := [(4, 26, [vi 0, .str [], .val (.slice none 0 0), .val (.slice none 0 0)]), (5, 26, [vi 3, .str [], .row 4302, .val (.slice none 0 0)]), (4302, 9, [rc21 []]), (504000, 50, [rc5 h0.f_l]), (1000000, 46, qc10 504000 h0)]) (by kernel_rfl)) ?_
  refine Wp.pre (St.vacantB 5 3 4303 26 (good_E_api_Node _) (by decide) (by kernel_rfl) (L' := [(4, 26, [vi 0, .str [], .val (.slice none 0 0), .val (.slice none 0 0)]), (5, 26, [vi 3, .str [], .row 4302, .row 4303]), (4302, 9, [rc21 []]), (504000, 50, [rc5 h0.f_l]), (1000000, 46, qc10 504000 h0)]) (by kernel_rfl)) ?_
  refine kw [0, 1, 4, 5] [4, 5, 4302, 4303, 504000, 1000000] [(0, .own 1000000 0), (1, vi a1), (4, .own 4 0), (5, .own 5 0)] [(4, 26, [vi 0, .str [], .val (.slice none 0 0), .val (.slice none 0 0)]), (5, 26, [vi 3, .str [], .row 4302, .row 4303]), (4302, 9, [rc21 []]), (4303, 26, [rc12 []]), (504000, 50, [rc5 h0.f_l]), (1000000, 46, qc10 504000 h0)] ?_
  refine Wp.weak (K' := [(0, .own 1000000 0), (1, vi a1), (4, .own 4 0), (5, .own 5 0)]) (L' := [(4, 26, [vi 0, .str [], ls [], tn8 []]), (5, 26, [vi 3, .str [], .row 4302, .row 4303]), (4302, 9, [rc21 []]), (4303, 26, [rc12 []]), (504000, 50, [rc5 h0.f_l]), (1000000, 46, qc10 504000 h0)]) (.cons (.refl _) (.cons (.refl _) (.cons (.refl _) (.cons (.refl _) .nil)))) (.cons (.cons (.refl _) (.cons (.refl _) (.cons (.zero _ _) (.cons (.zeroT _ _ _) .nil)))) (.cons (.cons (.refl _) (.cons (.refl _) (.cons (.refl _) (.cons (.refl _) .nil)))) (.cons (.cons (.refl _) .nil) (.cons (.cons (.refl _) .nil) (.cons (.cons (.refl _) .nil) (.cons (.cons (.refl _) (.cons (.refl _) (.cons (.refl _) (.cons (.refl _) .nil)))) .nil)))))) ?_
  refine Wp.loopL ?_
  refine ok_block_reader_pairs__o0_l1 R_block_reader_block__o0_s2 hR_block_reader_block__o0_s2 n a1 n zx7 (S_api_Node.mk 3 [] [] []) h0 o1 ho1 ?_
  rcases o1 with o1 | o1
  · replace h := sum_l h
    refine To.blockX (To.thenN (Wp.seq ?_))
    refine rg [4] [4, 4302, 4303, 504000, 1000000] [(4, .own 4 0)] [(4, 26, qc20 4302 4303 o1.2.1), (4302, 9, [rc21 o1.2.1.f_Keys]), (4303, 26, [rc12 o1.2.1.f_Kids]), (504000, 50, [rc5 o1.2.2.f_l]), (1000000, 46, qc10 504000 o1.2.2)] ?_
    refine To.thenN (Wp.ret ?_)
    refine To.scope (.inr (.inl rfl)) ?_
    refine kt [4] [4, 4302, 4303, 504000, 1000000] [(4, .own 4 0)] [(4, 26, qc20 4302 4303 o1.2.1), (4302, 9, [rc21 o1.2.1.f_Keys]), (4303, 26, [rc12 o1.2.1.f_Kids]), (504000, 50, [rc5 o1.2.2.f_l]), (1000000, 46, qc10 504000 o1.2.2)] ?_
    refine To.pre (St.settle (ks := [4303]) (kk := [4]) (kl := [4, 4302, 4303, 504000, 1000000]) (K' := [(4, .own 4 0)]) (L' := [(4, 26, qc20 4302 4303 o1.2.1), (4302, 9, [rc21 o1.2.1.f_Keys]), (4303, 26, [rc15 o1.2.1.f_Kids]), (504000, 50, [rc5 o1.2.2.f_l]), (1000000, 46, qc10 504000 o1.2.2)]) (by kernel_rfl)) ?_
    refine To.pre (St.sealB [4] (L' := [(4, 26, qc16 o1.2.1), (4302, 9, [rc21 o1.2.1.f_Keys]), (4303, 26, [rc15 o1.2.1.f_Kids]), (504000, 50, [rc5 o1.2.2.f_l]), (1000000, 46, qc10 504000 o1.2.2)]) (by kernel_rfl)) ?_
    refine To.weak (K' := [(4, .own 4 0)]) (L' := [(4, 26, qc9 o1.2.1), (4302, 9, [rc21 o1.2.1.f_Keys]), (4303, 26, [rc15 o1.2.1.f_Kids]), (504000, 50, [rc5 o1.2.2.f_l]), (1000000, 46, qc10 504000 o1.2.2)]) (.cons (.refl _) .nil) (.cons (.cons (.refl _) (.cons (.refl _) (.cons (.refl _) (.cons (.close _ _ _ _) .nil)))) (.cons (.cons (.refl _) .nil) (.cons (.cons (.refl _) .nil) (.cons (.cons (.refl _) .nil) (.cons (.cons (.refl _) (.cons (.refl _) (.cons (.refl _) (.cons (.refl _) .nil)))) .nil))))) ?_
    refine kt [4] [4, 504000, 1000000] [(4, .own 4 0)] [(4, 26, qc9 o1.2.1), (504000, 50, [rc5 o1.2.2.f_l]), (1000000, 46, qc10 504000 o1.2.2)] ?_
    refine To.pre (St.rename 504000 200 (by decide) (K' := [(4, .own 4 0)]) (L' := [(4, 26, qc9 o1.2.1), (200, 50, [rc5 o1.2.2.f_l]), (1000000, 46, qc10 200 o1.2.2)]) (by kernel_rfl) (by kernel_rfl) (by kernel_rfl)) ?_
    refine kt [4] [4, 200, 1000000] [(4, .own 4 0)] [(4, 26, qc9 o1.2.1), (200, 50, [rc5 o1.2.2.f_l]), (1000000, 46, qc10 200 o1.2.2)] ?_
    cases h
    exact To.doneB hΓ [200, 1000000] (by kernel_rfl) (by kernel_rfl)
  · replace h := sum_r h
    refine To.blockR (To.thenR ?_)
    refine To.scope (.inr (.inl rfl)) ?_
    refine kt [4] [4, 504000, 1000000] [(4, .own 4 0)] [(4, 26, qc9 o1.1), (504000, 50, [rc5 o1.2.f_l]), (1000000, 46, qc10 504000 o1.2)] ?_
    refine To.pre (St.rename 504000 200 (by decide) (K' := [(4, .own 4 0)]) (L' := [(4, 26, qc9 o1.1), (200, 50, [rc5 o1.2.f_l]), (1000000, 46, qc10 200 o1.2)]) (by kernel_rfl) (by kernel_rfl) (by kernel_rfl)) ?_
    refine kt [4] [4, 200, 1000000] [(4, .own 4 0)] [(4, 26, qc9 o1.1), (200, 50, [rc5 o1.2.f_l]), (1000000, 46, qc10 200 o1.2)] ?_
    cases h
    exact To.doneB hΓ [200, 1000000] (by kernel_rfl) (by kernel_rfl)
def block_reader_block__o0_s2_j1 (R_block_reader_block__o0_s2 : S_block_reader → Option (S_api_Node × S_block_reader)) (n : Nat) (v7 : Int) (b2 : S_api_Node) (b3 : S_line_Line) (b4 : S_api_Node) (b1000000 : S_block_reader) : Option (Sum (S_api_Node × S_api_Node × S_block_reader) (S_api_Node × S_block_reader)) :=
  if (block_Row b3.f_Text) = true then ((block_reader_row__o0_s2 R_block_reader_block__o0_s2 n b3.f_Indent b1000000).bind fun r2 =>
  some (.inl (b2, r2.1, r2.2)))
  else (if (decide (v7 > 0)) = true then ((block_reader_pairs__o0 R_block_reader_block__o0_s2 n b3.f_Indent b1000000).bind fun r3 =>
  some (.inl (b2, r3.1, r3.2)))
  else (if (decide (v7 < 0)) = true then (lett (block_reader_fail__o0_s2 b3.f_No 3 b1000000) fun r4 =>
  some (.inr (r4.1, r4.2)))
  else ((block_reader_value__o0 n b3.f_No b3.f_Text (S_block_reader.mk b1000000.f_l (IntKind.wrap .i64 (b1000000.f_at + 1)) b1000000.f_no b1000000.f_e)).bind fun r5 =>
  some (.inl (b2, r5.1, r5.2)))))
theorem ok_block_reader_block__o0_s2_j1 (R_block_reader_block__o0_s2 : S_block_reader → Option (S_api_Node × S_block_reader)) (hR_block_reader_block__o0_s2 : hR11 R_block_reader_block__o0_s2) (n : Nat) (v7 : Int) (b2 : S_api_Node) (b3 : S_line_Line) (b4 : S_api_Node) (b1000000 : S_block_reader) (o : Sum (S_api_Node × S_api_Node × S_block_reader) (S_api_Node × S_block_reader)) (h : block_reader_block__o0_s2_j1 R_block_reader_block__o0_s2 n v7 b2 b3 b4 b1000000 = some o) {F0 : Fz} {w0 : Pt Tryz.prog} {Q : Exit → Act → World → Prop} (hQ : (Sum.elim (fun s => To 61 F0 w0 [(2, .own 2 0), (4, .own 4 0)] [(2, 26, qc9 s.1), (4, 26, qc9 s.2.1), (504000, 50, [rc5 s.2.2.f_l]), (1000000, 46, qc10 504000 s.2.2)] .normal Q) (fun s => To 61 F0 w0 [(2, .own 2 0)] [(2, 26, qc9 s.1), (504000, 50, [rc5 s.2.f_l]), (1000000, 46, qc10 504000 s.2)] .ret Q)) o) : Wp Tryz.prog 61 F0 w0 [(0, .own 1000000 0), (2, .own 2 0), (3, .own 3 0), (4, .own 4 0), (7, vi v7)] [(2, 26, qc9 b2), (3, 50, qc3 b3), (4, 26, qc9 b4), (504000, 50, [rc5 b1000000.f_l]), (1000000, 46, qc10 504000 b1000000)] (cB (cA (cB (cB (cB (cF Tryz.f24)))))) Q := by
  unfold block_reader_block__o0_s2_j1 at h
  refine Wp.block (Wp.seq ?_)
  refine rr [] [(2, vb (block_Row b3.f_Text))] [] [0, 2, 3, 4, 7, 38] [2, 3, 4, 504000, 1000000] [(0, .own 1000000 0), (2, .own 2 0), (3, .own 3 0), (4, .own 4 0), (7, vi v7), (38, vb (block_Row b3.f_Text))] [(2, 26, qc9 b2), (3, 50, qc3 b3), (4, 26, qc9 b4), (504000, 50, [rc5 b1000000.f_l]), (1000000, 46, qc10 504000 b1000000)] [(true = true → CX Tryz.prog 14 [.str b3.f_Text] (vb (block_Row b3.f_Text)))] (AllP.cons (fun _ => cx (ok_block_Row b3.f_Text _ rfl)) AllP.nil) ?_
  refine To.thenN ?_
  refine Wp.cond (b := (block_Row b3.f_Text)) (by kernel_rfl) (fun hb => ?_) (fun hb => ?_)
  · replace h := if_t hb h
    obtain ⟨r2, hr2, h⟩ := bind_of h
    refine rr [] [] [(3, ⟨[(1000000, 1000000), (1010000, 504000)], [(200, 504000), (1000000, 1000000)], [.own 1000000 0, vi b3.f_Indent], [(1000000, 46, qc10 1010000 b1000000), (1010000, 50, [rc5 b1000000.f_l])], .agg (qc9 r2.1), [(200, 50, [rc5 r2.2.f_l]), (1000000, 46, qc10 200 r2.2)]⟩)] [2, 4] [2, 4, 504000, 1000000] [(2, .own 2 0), (4, .own 4 0)] [(2, 26, qc9 b2), (4, 26, qc9 r2.1), (504000, 50, [rc5 r2.2.f_l]), (1000000, 46, qc10 504000 r2.2)] [CbOb (CallsB Tryz.prog) 55 [.own 1000000 0, vi b3.f_Indent] [some (46, qc10 504000 b1000000), some (50, [rc5 b1000000.f_l])] ⟨[(1000000, 1000000), (1010000, 504000)], [(200, 504000), (1000000, 1000000)], [.own 1000000 0, vi b3.f_Indent], [(1000000, 46, qc10 1010000 b1000000), (1010000, 50, [rc5 b1000000.f_l])], .agg (qc9 r2.1), [(200, 50, [rc5 r2.2.f_l]), (1000000, 46, qc10 200 r2.2)]⟩] (AllP.cons (⟨(ok_block_reader_row__o0_s2 R_block_reader_block__o0_s2 hR_block_reader_block__o0_s2 n b3.f_Indent b1000000 _ hr2), by kernel_rfl, by kernel_rfl⟩) AllP.nil) ?_
    refine To.blockN ?_
    refine kt [2, 4] [2, 4, 504000, 1000000] [(2, .own 2 0), (4, .own 4 0)] [(2, 26, qc9 b2), (4, 26, qc9 r2.1), (504000, 50, [rc5 r2.2.f_l]), (1000000, 46, qc10 504000 r2.2)] ?_
    cases h
    exact hQ
  · replace h := if_f hb h
    refine Wp.seq ?_
    refine rg [0, 2, 3, 4, 7, 46] [2, 3, 4, 504000, 1000000] [(0, .own 1000000 0), (2, .own 2 0), (3, .own 3 0), (4, .own 4 0), (7, vi v7), (46, vb (decide (v7 > 0)))] [(2, 26, qc9 b2), (3, 50, qc3 b3), (4, 26, qc9 b4), (504000, 50, [rc5 b1000000.f_l]), (1000000, 46, qc10 504000 b1000000)] ?_
    refine To.thenN ?_
    refine Wp.cond (b := (decide (v7 > 0))) (by kernel_rfl) (fun hb => ?_) (fun hb => ?_)
    · replace h := if_t hb h
      obtain ⟨r3, hr3, h⟩ := bind_of h
      refine rr [] [] [(3, ⟨[(1000000, 1000000), (1010000, 504000)], [(200, 504000), (1000000, 1000000)], [.own 1000000 0, vi b3.f_Indent], [(1000000, 46, qc10 1010000 b1000000), (1010000, 50, [rc5 b1000000.f_l])], .agg (qc9 r3.1), [(200, 50, [rc5 r3.2.f_l]), (1000000, 46, qc10 200 r3.2)]⟩)] [2, 4] [2, 4, 504000, 1000000] [(2, .own 2 0), (4, .own 4 0)] [(2, 26, qc9 b2), (4, 26, qc9 r3.1), (504000, 50, [rc5 r3.2.f_l]), (1000000, 46, qc10 504000 r3.2)] [CbOb (CallsB Tryz.prog) 56 [.own 1000000 0, vi b3.f_Indent] [some (46, qc10 504000 b1000000), some (50, [rc5 b1000000.f_l])] ⟨[(1000000, 1000000), (1010000, 504000)], [(200, 504000), (1000000, 1000000)], [.own 1000000 0, vi b3.f_Indent], [(1000000, 46, qc10 1010000 b1000000), (1010000, 50, [rc5 b1000000.f_l])], .agg (qc9 r3.1), [(200, 50, [rc5 r3.2.f_l]), (1000000, 46, qc10 200 r3.2)]⟩] (AllP.cons (⟨(ok_block_reader_pairs__o0 R_block_reader_block__o0_s2 hR_block_reader_block__o0_s2 n b3.f_Indent b1000000 _ hr3), by kernel_rfl, by kernel_rfl⟩) AllP.nil) ?_
      refine To.blockN ?_
      refine kt [2, 4] [2, 4, 504000, 1000000] [(2, .own 2 0), (4, .own 4 0)] [(2, 26, qc9 b2), (4, 26, qc9 r3.1), (504000, 50, [rc5 r3.2.f_l]), (1000000, 46, qc10 504000 r3.2)] ?_
      cases h
      exact hQ
    · replace h := if_f hb h
      refine Wp.seq ?_
      refine rg [0, 2, 3, 4, 53] [2, 3, 4, 504000, 1000000] [(0, .own 1000000 0), (2, .own 2 0), (3, .own 3 0), (4, .own 4 0), (53, vb (decide (v7 < 0)))] [(2, 26, qc9 b2), (3, 50, qc3 b3), (4, 26, qc9 b4), (504000, 50, [rc5 b1000000.f_l]), (1000000, 46, qc10 504000 b1000000)] ?_
      refine To.thenN ?_
      refine Wp.cond (b := (decide (v7 < 0))) (by kernel_rfl) (fun hb => ?_) (fun hb => ?_)
      · replace h := if_t hb h
        refine Wp.seq ?_
        obtain ⟨r4, hr4, h⟩ := lett_of h
        refine rr [] [] [(3, ⟨[(1000000, 1000000), (1010000, 504000)], [(200, 504000), (1000000, 1000000)], [.own 1000000 0, vi b3.f_No, vi 3], [(1000000, 46, qc10 1010000 b1000000), (1010000, 50, [rc5 b1000000.f_l])], .agg (qc9 r4.1), [(200, 50, [rc5 r4.2.f_l]), (1000000, 46, qc10 200 r4.2)]⟩)] [2] [2, 504000, 1000000] [(2, .own 2 0)] [(2, 26, qc9 r4.1), (504000, 50, [rc5 r4.2.f_l]), (1000000, 46, qc10 504000 r4.2)] [CbOb (CallsB Tryz.prog) 25 [.own 1000000 0, vi b3.f_No, vi 3] [some (46, qc10 504000 b1000000), some (50, [rc5 b1000000.f_l])] ⟨[(1000000, 1000000), (1010000, 504000)], [(200, 504000), (1000000, 1000000)], [.own 1000000 0, vi b3.f_No, vi 3], [(1000000, 46, qc10 1010000 b1000000), (1010000, 50, [rc5 b1000000.f_l])], .agg (qc9 r4.1), [(200, 50, [rc5 r4.2.f_l]), (1000000, 46, qc10 200 r4.2)]⟩] (AllP.cons (⟨(ok_block_reader_fail__o0_s2 b3.f_No 3 b1000000 _ hr4), by kernel_rfl, by kernel_rfl⟩) AllP.nil) ?_
        refine To.thenN (Wp.ret (To.blockR ?_))
        refine kt [2] [2, 504000, 1000000] [(2, .own 2 0)] [(2, 26, qc9 r4.1), (504000, 50, [rc5 r4.2.f_l]), (1000000, 46, qc10 504000 r4.2)] ?_
        cases h
        exact hQ
      · replace h := if_f hb h
        refine Wp.seq ?_
        refine rg [0, 2, 3, 4] [2, 3, 4, 504000, 1000000] [(0, .own 1000000 0), (2, .own 2 0), (3, .own 3 0), (4, .own 4 0)] [(2, 26, qc9 b2), (3, 50, qc3 b3), (4, 26, qc9 b4), (504000, 50, [rc5 b1000000.f_l]), (1000000, 46, [.row 504000, vi (IntKind.wrap .i64 (b1000000.f_at + 1)), vi b1000000.f_no, vi b1000000.f_e])] ?_
        refine To.thenN ?_
        obtain ⟨r5, hr5, h⟩ := bind_of h
        refine rr [] [] [(5, ⟨[(1000000, 1000000), (1010000, 504000)], [(200, 504000), (1000000, 1000000)], [.own 1000000 0, vi b3.f_No, .str b3.f_Text], [(1000000, 46, [.row 1010000, vi (IntKind.wrap .i64 (b1000000.f_at + 1)), vi b1000000.f_no, vi b1000000.f_e]), (1010000, 50, [rc5 b1000000.f_l])], .agg (qc9 r5.1), [(200, 50, [rc5 r5.2.f_l]), (1000000, 46, qc10 200 r5.2)]⟩)] [2, 4] [2, 4, 504000, 1000000] [(2, .own 2 0), (4, .own 4 0)] [(2, 26, qc9 b2), (4, 26, qc9 r5.1), (504000, 50, [rc5 r5.2.f_l]), (1000000, 46, qc10 504000 r5.2)] [CbOb (CallsB Tryz.prog) 57 [.own 1000000 0, vi b3.f_No, .str b3.f_Text] [some (46, [.row 504000, vi (IntKind.wrap .i64 (b1000000.f_at + 1)), vi b1000000.f_no, vi b1000000.f_e]), some (50, [rc5 b1000000.f_l])] ⟨[(1000000, 1000000), (1010000, 504000)], [(200, 504000), (1000000, 1000000)], [.own 1000000 0, vi b3.f_No, .str b3.f_Text], [(1000000, 46, [.row 1010000, vi (IntKind.wrap .i64 (b1000000.f_at + 1)), vi b1000000.f_no, vi b1000000.f_e]), (1010000, 50, [rc5 b1000000.f_l])], .agg (qc9 r5.1), [(200, 50, [rc5 r5.2.f_l]), (1000000, 46, qc10 200 r5.2)]⟩] (AllP.cons (⟨(ok_block_reader_value__o0 n b3.f_No b3.f_Text (S_block_reader.mk b1000000.f_l (IntKind.wrap .i64 (b1000000.f_at + 1)) b1000000.f_no b1000000.f_e) _ hr5), by kernel_rfl, by kernel_rfl⟩) AllP.nil) ?_
        refine To.blockN ?_
        refine kt [2, 4] [2, 4, 504000, 1000000] [(2, .own 2 0), (4, .own 4 0)] [(2, 26, qc9 b2), (4, 26, qc9 r5.1), (504000, 50, [rc5 r5.2.f_l]), (1000000, 46, qc10 504000 r5.2)] ?_
        cases h
        exact hQ
def block_reader_block__o0_s2_b (R_block_reader_block__o0_s2 : S_block_reader → Option (S_api_Node × S_block_reader)) (n : Nat) (h0 : S_block_reader) : Option (S_api_Node × S_block_reader) :=
  if (decide (0 ≤ h0.f_at ∧ h0.f_at < (List.length h0.f_l : Int))) = true then ((block_Entry n (((h0.f_l)[Int.toNat h0.f_at]?.getD (S_line_Line.mk 0 0 [])).f_Text)).bind fun r1 =>
  (block_reader_block__o0_s2_j1 R_block_reader_block__o0_s2 n r1.2.2 (S_api_Node.mk 0 [] [] []) ((h0.f_l)[Int.toNat h0.f_at]?.getD (S_line_Line.mk 0 0 [])) (S_api_Node.mk 0 [] [] []) h0).bind fun o2 =>
  (Sum.elim (fun o2 => some (o2.2.1, o2.2.2)) (fun o2 => some (o2.1, o2.2))) o2) else none
theorem ok_block_reader_block__o0_s2_b (R_block_reader_block__o0_s2 : S_block_reader → Option (S_api_Node × S_block_reader)) (hR_block_reader_block__o0_s2 : hR11 R_block_reader_block__o0_s2) (n : Nat) (h0 : S_block_reader) (r : S_api_Node × S_block_reader) (h : block_reader_block__o0_s2_b R_block_reader_block__o0_s2 n h0 = some r) : CallsB Tryz.prog 24 [.own 1000000 0] [(1000000, 46, qc10 1010000 h0), (1010000, 50, [rc5 h0.f_l])] (.agg (qc9 r.1)) [(200, 50, [rc5 r.2.f_l]), (1000000, 46, qc10 200 r.2)] := by
  unfold block_reader_block__o0_s2_b at h
  refine callsB_of (fn := Tryz.f24) (by kernel_rfl) rfl (by kernel_rfl) (Nat.le_of_ble_eq_true (by kernel_rfl)) fun F0 w0 => ?_
  refine kw [0] [1000000, 1010000] [(0, .own 1000000 0)] [(1000000, 46, qc10 1010000 h0), (1010000, 50, [rc5 h0.f_l])] ?_
  refine Wp.pre (St.rename 1010000 504000 (by decide) (K' := [(0, .own 1000000 0)]) (L' := [(1000000, 46, qc10 504000 h0), (504000, 50, [rc5 h0.f_l])]) (by kernel_rfl) (by kernel_rfl) (by kernel_rfl)) ?_
  refine kw [0] [504000, 1000000] [(0, .own 1000000 0)] [(504000, 50, [rc5 h0.f_l]), (1000000, 46, qc10 504000 h0)] ?_
  refine Wp.seq ?_
  refine rg [0, 2] [2, 504000, 1000000] [(0, .own 1000000 0), (2, .own 2 0)] [(2, 26, [vi 0, .str [], .val (.slice none 0 0), .val (.slice none 0 0)]), (504000, 50, [rc5 h0.f_l]), (1000000, 46, qc10 504000 h0)] ?_
  refine To.thenN (Wp.seq ?_)
  obtain ⟨hc3, h⟩ := chk_of h
  refine Wp.regionD hm hΓ [] [0, 2, 3] [2, 3, 504000, 1000000] (K' := [(0, .own 1000000 0), (2, .own 2 0), (3, .own 3 0)]) (L' := [(2, 26, [vi 0, .str [], .val (.slice none 0 0), .val (.slice none 0 0)]), (3, 50, [vi (((h0.f_l)[Int.toNat h0.f_at]?.getD zx4).f_No), vi (((h0.f_l)[Int.toNat h0.f_at]?.getD zx4).f_Indent), .str (((h0.f_l)[Int.toNat h0.f_at]?.getD zx4).f_Text)]), (504000, 50, [rc5 h0.f_l]), (1000000, 46, qc10 504000 h0)]) (ob := [(decide (0 ≤ h0.f_at ∧ h0.f_at < (List.length h0.f_l : Int))) = true, (decide (0 ≤ h0.f_at ∧ h0.f_at < (List.length h0.f_l : Int))) = true]) (by kernel_rfl) (AllP.cons hc3 (AllP.cons hc3 AllP.nil)) ?_
  refine To.thenN (Wp.seq ?_)
  refine rg [0, 2, 3, 4] [2, 3, 4, 504000, 1000000] [(0, .own 1000000 0), (2, .own 2 0), (3, .own 3 0), (4, .own 4 0)] [(2, 26, [vi 0, .str [], .val (.slice none 0 0), .val (.slice none 0 0)]), (3, 50, [vi (((h0.f_l)[Int.toNat h0.f_at]?.getD zx4).f_No), vi (((h0.f_l)[Int.toNat h0.f_at]?.getD zx4).f_Indent), .str (((h0.f_l)[Int.toNat h0.f_at]?.getD zx4).f_Text)]), (4, 26, [vi 0, .str [], .val (.slice none 0 0), .val (.slice none 0 0)]), (504000, 50, [rc5 h0.f_l]), (1000000, 46, qc10 504000 h0)] ?_
  refine To.thenN (Wp.seq (Wp.seq ?_))
  obtain ⟨r1, hr1, h⟩ := bind_of h
  refine rr [] [(2, .tup [.str r1.1, .str r1.2.1, vi r1.2.2])] [] [0, 2, 3, 4, 7] [2, 3, 4, 504000, 1000000] [(0, .own 1000000 0), (2, .own 2 0), (3, .own 3 0), (4, .own 4 0), (7, vi r1.2.2)] [(2, 26, [vi 0, .str [], .val (.slice none 0 0), .val (.slice none 0 0)]), (3, 50, [vi (((h0.f_l)[Int.toNat h0.f_at]?.getD zx4).f_No), vi (((h0.f_l)[Int.toNat h0.f_at]?.getD zx4).f_Indent), .str (((h0.f_l)[Int.toNat h0.f_at]?.getD zx4).f_Text)]), (4, 26, [vi 0, .str [], .val (.slice none 0 0), .val (.slice none 0 0)]), (504000, 50, [rc5 h0.f_l]), (1000000, 46, qc10 504000 h0)] [(true = true → CX Tryz.prog 12 [.str (((h0.f_l)[Int.toNat h0.f_at]?.getD zx4).f_Text)] (.tup [.str r1.1, .str r1.2.1, vi r1.2.2]))] (AllP.cons (fun _ => cx (ok_block_Entry n (((h0.f_l)[Int.toNat h0.f_at]?.getD zx4).f_Text) _ hr1)) AllP.nil) ?_
  refine To.thenN ?_
  obtain ⟨o2, ho2, h⟩ := bind_of h
  refine kw [0, 2, 3, 4, 7] [2, 3, 4, 504000, 1000000] [(0, .own 1000000 0), (2, .own 2 0), (3, .own 3 0), (4, .own 4 0), (7, vi r1.2.2)] [(2, 26, [vi 0, .str [], .val (.slice none 0 0), .val (.slice none 0 0)]), (3, 50, [vi (((h0.f_l)[Int.toNat h0.f_at]?.getD zx4).f_No), vi (((h0.f_l)[Int.toNat h0.f_at]?.getD zx4).f_Indent), .str (((h0.f_l)[Int.toNat h0.f_at]?.getD zx4).f_Text)]), (4, 26, [vi 0, .str [], .val (.slice none 0 0), .val (.slice none 0 0)]), (504000, 50, [rc5 h0.f_l]), (1000000, 46, qc10 504000 h0)] ?_
  refine Wp.weak (K' := [(0, .own 1000000 0), (2, .own 2 0), (3, .own 3 0), (4, .own 4 0), (7, vi r1.2.2)]) (L' := [(2, 26, [vi 0, .str [], ls [], tn8 []]), (3, 50, [vi (((h0.f_l)[Int.toNat h0.f_at]?.getD zx4).f_No), vi (((h0.f_l)[Int.toNat h0.f_at]?.getD zx4).f_Indent), .str (((h0.f_l)[Int.toNat h0.f_at]?.getD zx4).f_Text)]), (4, 26, [vi 0, .str [], ls [], tn8 []]), (504000, 50, [rc5 h0.f_l]), (1000000, 46, qc10 504000 h0)]) (.cons (.refl _) (.cons (.refl _) (.cons (.refl _) (.cons (.refl _) (.cons (.refl _) .nil))))) (.cons (.cons (.refl _) (.cons (.refl _) (.cons (.zero _ _) (.cons (.zeroT _ _ _) .nil)))) (.cons (.cons (.refl _) (.cons (.refl _) (.cons (.refl _) .nil))) (.cons (.cons (.refl _) (.cons (.refl _) (.cons (.zero _ _) (.cons (.zeroT _ _ _) .nil)))) (.cons (.cons (.refl _) .nil) (.cons (.cons (.refl _) (.cons (.refl _) (.cons (.refl _) (.cons (.refl _) .nil)))) .nil))))) ?_
  refine ok_block_reader_block__o0_s2_j1 R_block_reader_block__o0_s2 hR_block_reader_block__o0_s2 n r1.2.2 zx7 ((h0.f_l)[Int.toNat h0.f_at]?.getD zx4) zx7 h0 o2 ho2 ?_
  rcases o2 with o2 | o2
  · replace h := sum_l h
    refine To.thenN (Wp.seq ?_)
    refine rg [2] [2, 504000, 1000000] [(2, .own 2 0)] [(2, 26, qc9 o2.2.1), (504000, 50, [rc5 o2.2.2.f_l]), (1000000, 46, qc10 504000 o2.2.2)] ?_
    refine To.thenN (Wp.ret ?_)
    refine kt [2] [2, 504000, 1000000] [(2, .own 2 0)] [(2, 26, qc9 o2.2.1), (504000, 50, [rc5 o2.2.2.f_l]), (1000000, 46, qc10 504000 o2.2.2)] ?_
    refine To.pre (St.rename 504000 200 (by decide) (K' := [(2, .own 2 0)]) (L' := [(2, 26, qc9 o2.2.1), (200, 50, [rc5 o2.2.2.f_l]), (1000000, 46, qc10 200 o2.2.2)]) (by kernel_rfl) (by kernel_rfl) (by kernel_rfl)) ?_
    refine kt [2] [2, 200, 1000000] [(2, .own 2 0)] [(2, 26, qc9 o2.2.1), (200, 50, [rc5 o2.2.2.f_l]), (1000000, 46, qc10 200 o2.2.2)] ?_
    cases h
    exact To.doneB hΓ [200, 1000000] (by kernel_rfl) (by kernel_rfl)
  · replace h := sum_r h
    refine To.thenR ?_
    refine kt [2] [2, 504000, 1000000] [(2, .own 2 0)] [(2, 26, qc9 o2.1), (504000, 50, [rc5 o2.2.f_l]), (1000000, 46, qc10 504000 o2.2)] ?_
    refine To.pre (St.rename 504000 200 (by decide) (K' := [(2, .own 2 0)]) (L' := [(2, 26, qc9 o2.1), (200, 50, [rc5 o2.2.f_l]), (1000000, 46, qc10 200 o2.2)]) (by kernel_rfl) (by kernel_rfl) (by kernel_rfl)) ?_
    refine kt [2] [2, 200, 1000000] [(2, .own 2 0)] [(2, 26, qc9 o2.1), (200, 50, [rc5 o2.2.f_l]), (1000000, 46, qc10 200 o2.2)] ?_
    cases h
    exact To.doneB hΓ [200, 1000000] (by kernel_rfl) (by kernel_rfl)
def block_reader_block__o0_s2 : Nat → S_block_reader → Option (S_api_Node × S_block_reader)
  | 0 => fun _ => none
  | n + 1 => block_reader_block__o0_s2_b (block_reader_block__o0_s2 n) n
theorem ok_block_reader_block__o0_s2 (n : Nat) : ∀ (h0 : S_block_reader) (r : S_api_Node × S_block_reader), block_reader_block__o0_s2 n h0 = some r → CallsB Tryz.prog 24 [.own 1000000 0] [(1000000, 46, qc10 1010000 h0), (1010000, 50, [rc5 h0.f_l])] (.agg (qc9 r.1)) [(200, 50, [rc5 r.2.f_l]), (1000000, 46, qc10 200 r.2)] := by
  induction n with
  | zero => intro h0 r h; cases h
  | succ n ih => exact fun h0 r h => ok_block_reader_block__o0_s2_b (block_reader_block__o0_s2 n) ih n h0 r h
def block_Parse_j1 (n : Nat) (v46 : Bool) (b2 : S_api_Node) (b9 : S_api_Node) (b27 : S_block_reader) : Option (S_block_reader) :=
  if v46 = true then (if (decide (0 ≤ b27.f_at ∧ b27.f_at < (List.length b27.f_l : Int))) = true then (lett (block_reader_fail__o0_s2 (((b27.f_l)[Int.toNat b27.f_at]?.getD (S_line_Line.mk 0 0 [])).f_No) 3 b27) fun r3 =>
  some r3.2) else none)
  else some b27
theorem ok_block_Parse_j1 (n : Nat) (v46 : Bool) (b2 : S_api_Node) (b9 : S_api_Node) (b27 : S_block_reader) (o : S_block_reader) (h : block_Parse_j1 n v46 b2 b9 b27 = some o) {F0 : Fz} {w0 : Pt Tryz.prog} {Q : Exit → Act → World → Prop} (hQ : To 81 F0 w0 [(2, .own 2 0), (8, .own 27 0), (9, .own 9 0)] [(2, 26, qc9 b2), (9, 26, qc9 b9), (27, 46, qc10 5620 o), (5620, 50, [rc5 o.f_l])] .normal Q) : Wp Tryz.prog 81 F0 w0 [(2, .own 2 0), (8, .own 27 0), (9, .own 9 0), (46, vb v46)] [(2, 26, qc9 b2), (9, 26, qc9 b9), (27, 46, qc10 5620 b27), (5620, 50, [rc5 b27.f_l])] (cB (cA (cB (cB (cB (cB (cB (cB (cF Tryz.f9))))))))) Q := by
  unfold block_Parse_j1 at h
  refine Wp.cond (b := v46) (by kernel_rfl) (fun hb => ?_) (fun hb => ?_)
  · replace h := if_t hb h
    obtain ⟨hc4, h⟩ := chk_of h
    obtain ⟨r3, hr3, h⟩ := lett_of h
    refine Wp.regionO hm hΓ [] [] [(12, ⟨[(1000000, 27), (1010000, 5620)], [(200, 5620), (1000000, 27)], [.own 1000000 0, vi (((b27.f_l)[Int.toNat b27.f_at]?.getD zx4).f_No), vi 3], [(1000000, 46, qc10 1010000 b27), (1010000, 50, [rc5 b27.f_l])], .agg (qc9 r3.1), [(200, 50, [rc5 r3.2.f_l]), (1000000, 46, qc10 200 r3.2)]⟩)] [2, 8, 9, 46, 47, 48, 49, 50, 51, 52, 53, 54, 55, 56, 57, 58, 59] [2, 9, 27, 5620] [2, 8, 9] [2, 9, 27, 5620] (K' := [(2, .own 2 0), (8, .own 27 0), (9, .own 9 0)]) (L' := [(2, 26, qc9 b2), (9, 26, qc9 b9), (27, 46, qc10 5620 r3.2), (5620, 50, [rc5 r3.2.f_l])]) (ob := [(decide (0 ≤ b27.f_at ∧ b27.f_at < (List.length b27.f_l : Int))) = true, (decide (0 ≤ b27.f_at ∧ b27.f_at < (List.length b27.f_l : Int))) = true, CbOb (CallsB Tryz.prog) 25 [.own 27 0, vi (((b27.f_l)[Int.toNat b27.f_at]?.getD zx4).f_No), vi 3] [some (46, qc10 5620 b27), some (50, [rc5 b27.f_l])] ⟨[(1000000, 27), (1010000, 5620)], [(200, 5620), (1000000, 27)], [.own 1000000 0, vi (((b27.f_l)[Int.toNat b27.f_at]?.getD zx4).f_No), vi 3], [(1000000, 46, qc10 1010000 b27), (1010000, 50, [rc5 b27.f_l])], .agg (qc9 r3.1), [(200, 50, [rc5 r3.2.f_l]), (1000000, 46, qc10 200 r3.2)]⟩]) (by kernel_rfl) (by kernel_rfl) (AllP.cons hc4 (AllP.cons hc4 (AllP.cons (⟨(ok_block_reader_fail__o0_s2 (((b27.f_l)[Int.toNat b27.f_at]?.getD zx4).f_No) 3 b27 _ hr3), by kernel_rfl, by kernel_rfl⟩) AllP.nil))) ?_
    refine kt [2, 8, 9] [2, 9, 27, 5620] [(2, .own 2 0), (8, .own 27 0), (9, .own 9 0)] [(2, 26, qc9 b2), (9, 26, qc9 b9), (27, 46, qc10 5620 r3.2), (5620, 50, [rc5 r3.2.f_l])] ?_
    cases h
    exact hQ
  · replace h := if_f hb h
    refine Wp.skip ?_
    refine kt [2, 8, 9] [2, 9, 27, 5620] [(2, .own 2 0), (8, .own 27 0), (9, .own 9 0)] [(2, 26, qc9 b2), (9, 26, qc9 b9), (27, 46, qc10 5620 b27), (5620, 50, [rc5 b27.f_l])] ?_
    cases h
    exact hQ
def block_Parse (n : Nat) (a0 : List UInt8) : Option (S_api_Node × Int × Int) :=
  (line_Split_o n a0).bind fun r1 =>
  if (r1.2.2 != 0) = true then (some ((S_api_Node.mk 0 [] [] []), r1.2.1, r1.2.2))
  else (if ((List.length r1.1 : Int) == 0) = true then (some ((S_api_Node.mk 0 [] [] []), 0, 0))
  else ((block_reader_block__o0_s2 n (S_block_reader.mk r1.1 0 0 0)).bind fun r2 =>
  (block_Parse_j1 n (bif (r2.2.f_e == 0) then (decide (r2.2.f_at < (List.length r2.2.f_l : Int))) else false) (S_api_Node.mk 0 [] [] []) r2.1 r2.2).bind fun o3 =>
  if (o3.f_e != 0) = true then (some ((S_api_Node.mk 0 [] [] []), o3.f_no, o3.f_e))
  else ((node_Right n r2.1).bind fun r4 =>
  if (!r4) = true then (some ((S_api_Node.mk 0 [] [] []), 0, 9))
  else (some (r2.1, 0, 0)))))
theorem ok_block_Parse (n : Nat) (a0 : List UInt8) (r : S_api_Node × Int × Int) (h : block_Parse n a0 = some r) : CallsX Tryz.prog 9 [.str a0] (.tup [.agg (qc9 r.1), vi r.2.1, vi r.2.2]) := by
  unfold block_Parse at h
  refine callsX_of (fn := Tryz.f9) (by kernel_rfl) rfl (by kernel_rfl) (Nat.le_of_ble_eq_true (by kernel_rfl)) fun F0 w0 _ => ?_
  refine kw [0] [] [(0, .str a0)] [] ?_
  refine Wp.seq ?_
  refine rg [0, 2] [2] [(0, .str a0), (2, .own 2 0)] [(2, 26, [vi 0, .str [], .val (.slice none 0 0), .val (.slice none 0 0)])] ?_
  refine To.thenN (Wp.seq ?_)
  obtain ⟨r1, hr1, h⟩ := bind_of h
  refine rr [] [] [(1, ⟨[], [(1, 12)], [.str a0], [], .tup [.row 1, vi r1.2.1, vi r1.2.2], [(1, 50, [rc5 r1.1])]⟩)] [2, 5, 6, 7] [2, 12] [(2, .own 2 0), (5, .row 12), (6, vi r1.2.1), (7, vi r1.2.2)] [(2, 26, [vi 0, .str [], .val (.slice none 0 0), .val (.slice none 0 0)]), (12, 50, [rc5 r1.1])] [CbOb (CallsB Tryz.prog) 23 [.str a0] [] ⟨[], [(1, 12)], [.str a0], [], .tup [.row 1, vi r1.2.1, vi r1.2.2], [(1, 50, [rc5 r1.1])]⟩] (AllP.cons (⟨(ok_line_Split_o n a0 _ hr1), by kernel_rfl, by kernel_rfl⟩) AllP.nil) ?_
  refine To.thenN (Wp.seq (Wp.seq ?_))
  refine rg [2, 5, 6, 7, 17] [2, 12] [(2, .own 2 0), (5, .row 12), (6, vi r1.2.1), (7, vi r1.2.2), (17, vb (r1.2.2 != 0))] [(2, 26, [vi 0, .str [], .val (.slice none 0 0), .val (.slice none 0 0)]), (12, 50, [rc5 r1.1])] ?_
  refine To.thenN ?_
  refine Wp.cond (b := (r1.2.2 != 0)) (by kernel_rfl) (fun hb => ?_) (fun hb => ?_)
  · replace h := if_t hb h
    refine Wp.seq ?_
    refine rg [2, 3, 4] [2] [(2, .own 2 0), (3, vi r1.2.1), (4, vi r1.2.2)] [(2, 26, [vi 0, .str [], .val (.slice none 0 0), .val (.slice none 0 0)])] ?_
    refine To.thenN (Wp.ret (To.thenR ?_))
    refine kt [2, 3, 4] [2] [(2, .own 2 0), (3, vi r1.2.1), (4, vi r1.2.2)] [(2, 26, [vi 0, .str [], .val (.slice none 0 0), .val (.slice none 0 0)])] ?_
    refine To.weak (K' := [(2, .own 2 0), (3, vi r1.2.1), (4, vi r1.2.2)]) (L' := [(2, 26, [vi 0, .str [], ls [], tn8 []])]) (.cons (.refl _) (.cons (.refl _) (.cons (.refl _) .nil))) (.cons (.cons (.refl _) (.cons (.refl _) (.cons (.zero _ _) (.cons (.zeroT _ _ _) .nil)))) .nil) ?_
    cases h
    exact To.done hΓ (by kernel_rfl)
  · replace h := if_f hb h
    refine Wp.skip (To.thenN (Wp.seq (Wp.seq ?_)))
    refine rg [2, 5, 23] [2, 12] [(2, .own 2 0), (5, .row 12), (23, vb ((List.length r1.1 : Int) == 0))] [(2, 26, [vi 0, .str [], .val (.slice none 0 0), .val (.slice none 0 0)]), (12, 50, [rc5 r1.1])] ?_
    refine To.thenN ?_
    refine Wp.cond (b := ((List.length r1.1 : Int) == 0)) (by kernel_rfl) (fun hb => ?_) (fun hb => ?_)
    · replace h := if_t hb h
      refine Wp.seq ?_
      refine rg [2, 3, 4] [2] [(2, .own 2 0), (3, vi 0), (4, vi 0)] [(2, 26, [vi 0, .str [], .val (.slice none 0 0), .val (.slice none 0 0)])] ?_
      refine To.thenN (Wp.ret (To.thenR ?_))
      refine kt [2, 3, 4] [2] [(2, .own 2 0), (3, vi 0), (4, vi 0)] [(2, 26, [vi 0, .str [], .val (.slice none 0 0), .val (.slice none 0 0)])] ?_
      refine To.weak (K' := [(2, .own 2 0), (3, vi 0), (4, vi 0)]) (L' := [(2, 26, [vi 0, .str [], ls [], tn8 []])]) (.cons (.refl _) (.cons (.refl _) (.cons (.refl _) .nil))) (.cons (.cons (.refl _) (.cons (.refl _) (.cons (.zero _ _) (.cons (.zeroT _ _ _) .nil)))) .nil) ?_
      cases h
      exact To.done hΓ (by kernel_rfl)
    · replace h := if_f hb h
      refine Wp.skip (To.thenN (Wp.seq ?_))
      refine rg [2, 8] [2, 12, 27] [(2, .own 2 0), (8, .own 27 0)] [(2, 26, [vi 0, .str [], .val (.slice none 0 0), .val (.slice none 0 0)]), (12, 50, [rc5 r1.1]), (27, 46, [.row 12, vi 0, vi 0, vi 0])] ?_
      refine To.thenN (Wp.seq ?_)
      obtain ⟨r2, hr2, h⟩ := bind_of h
      refine rr [] [] [(1, ⟨[(1000000, 27), (1010000, 12)], [(200, 12), (1000000, 27)], [.own 1000000 0], [(1000000, 46, [.row 1010000, vi 0, vi 0, vi 0]), (1010000, 50, [rc5 r1.1])], .agg (qc9 r2.1), [(200, 50, [rc5 r2.2.f_l]), (1000000, 46, qc10 200 r2.2)]⟩)] [2, 8, 9] [2, 9, 12, 27] [(2, .own 2 0), (8, .own 27 0), (9, .own 9 0)] [(2, 26, [vi 0, .str [], .val (.slice none 0 0), .val (.slice none 0 0)]), (9, 26, qc9 r2.1), (12, 50, [rc5 r2.2.f_l]), (27, 46, qc10 12 r2.2)] [CbOb (CallsB Tryz.prog) 24 [.own 27 0] [some (46, [.row 12, vi 0, vi 0, vi 0]), some (50, [rc5 r1.1])] ⟨[(1000000, 27), (1010000, 12)], [(200, 12), (1000000, 27)], [.own 1000000 0], [(1000000, 46, [.row 1010000, vi 0, vi 0, vi 0]), (1010000, 50, [rc5 r1.1])], .agg (qc9 r2.1), [(200, 50, [rc5 r2.2.f_l]), (1000000, 46, qc10 200 r2.2)]⟩] (AllP.cons (⟨(ok_block_reader_block__o0_s2 n (S_block_reader.mk r1.1 0 0 0) _ hr2), by kernel_rfl, by kernel_rfl⟩) AllP.nil) ?_
      refine To.thenN (Wp.seq (Wp.seq ?_))
      refine Wp.regionD hm hΓ [] [2, 8, 9, 46] [2, 9, 12, 27] (K' := [(2, .own 2 0), (8, .own 27 0), (9, .own 9 0), (46, vb (bif (r2.2.f_e == 0) then (decide (r2.2.f_at < (List.length r2.2.f_l : Int))) else false))]) (L' := [(2, 26, [vi 0, .str [], .val (.slice none 0 0), .val (.slice none 0 0)]), (9, 26, qc9 r2.1), (12, 50, [rc5 r2.2.f_l]), (27, 46, qc10 12 r2.2)]) (ob := []) (by kernel_rfl) AllP.nil ?_
      refine To.thenN ?_
      obtain ⟨o3, ho3, h⟩ := bind_of h
      refine kw [2, 8, 9, 46] [2, 9, 12, 27] [(2, .own 2 0), (8, .own 27 0), (9, .own 9 0), (46, vb (bif (r2.2.f_e == 0) then (decide (r2.2.f_at < (List.length r2.2.f_l : Int))) else false))] [(2, 26, [vi 0, .str [], .val (.slice none 0 0), .val (.slice none 0 0)]), (9, 26, qc9 r2.1), (12, 50, [rc5 r2.2.f_l]), (27, 46, qc10 12 r2.2)] ?_
      refine Wp.pre (St.rename 12 5620 (by decide) (K' := [(2, .own 2 0), (8, .own 27 0), (9, .own 9 0), (46, vb (bif (r2.2.f_e == 0) then (decide (r2.2.f_at < (List.length r2.2.f_l : Int))) else false))]) (L' := [(2, 26, [vi 0, .str [], .val (.slice none 0 0), .val (.slice none 0 0)]), (9, 26, qc9 r2.1), (5620, 50, [rc5 r2.2.f_l]), (27, 46, qc10 5620 r2.2)]) (by kernel_rfl) (by kernel_rfl) (by kernel_rfl)) ?_
      refine kw [2, 8, 9, 46] [2, 9, 27, 5620] [(2, .own 2 0), (8, .own 27 0), (9, .own 9 0), (46, vb (bif (r2.2.f_e == 0) then (decide (r2.2.f_at < (List.length r2.2.f_l : Int))) else false))] [(2, 26, [vi 0, .str [], .val (.slice none 0 0), .val (.slice none 0 0)]), (9, 26, qc9 r2.1), (27, 46, qc10 5620 r2.2), (5620, 50, [rc5 r2.2.f_l])] ?_
      refine Wp.weak (K' := [(2, .own 2 0), (8, .own 27 0), (9, .own 9 0), (46, vb (bif (r2.2.f_e == 0) then (decide (r2.2.f_at < (List.length r2.2.f_l : Int))) else false))]) (L' := [(2, 26, [vi 0, .str [], ls [], tn8 []]), (9, 26, qc9 r2.1), (27, 46, qc10 5620 r2.2), (5620, 50, [rc5 r2.2.f_l])]) (.cons (.refl _) (.cons (.refl _) (.cons (.refl _) (.cons (.refl _) .nil)))) (.cons (.cons (.refl _) (.cons (.refl _) (.cons (.zero _ _) (.cons (.zeroT _ _ _) .nil)))) (.cons (.cons (.refl _) (.cons (.refl _) (.cons (.refl _) (.cons (.refl _) .nil)))) (.cons (.cons (.refl _) (.cons (.refl _) (.cons (.refl _) (.cons (.refl _) .nil)))) (.cons (.cons (.refl _) .nil) .nil)))) ?_
      refine ok_block_Parse_j1 n (bif (r2.2.f_e == 0) then (decide (r2.2.f_at < (List.length r2.2.f_l : Int))) else false) zx7 r2.1 r2.2 o3 ho3 ?_
      refine To.thenN (Wp.seq (Wp.block (Wp.seq ?_)))
      refine rg [2, 8, 9, 60] [2, 9, 27, 5620] [(2, .own 2 0), (8, .own 27 0), (9, .own 9 0), (60, vb (o3.f_e != 0))] [(2, 26, [vi 0, .str [], ls [], tn8 []]), (9, 26, qc9 r2.1), (27, 46, qc10 5620 o3), (5620, 50, [rc5 o3.f_l])] ?_
      refine To.thenN ?_
      refine Wp.cond (b := (o3.f_e != 0)) (by kernel_rfl) (fun hb => ?_) (fun hb => ?_)
      · replace h := if_t hb h
        refine Wp.seq ?_
        refine Wp.regionD hm hΓ [] [2, 3, 4] [2] (K' := [(2, .own 2 0), (3, vi o3.f_no), (4, vi o3.f_e)]) (L' := [(2, 26, [vi 0, .str [], .val (.slice none 0 0), .val (.slice none 0 0)])]) (ob := []) (by kernel_rfl) AllP.nil ?_
        refine To.thenN (Wp.ret (To.blockR (To.thenR ?_)))
        refine kt [2, 3, 4] [2] [(2, .own 2 0), (3, vi o3.f_no), (4, vi o3.f_e)] [(2, 26, [vi 0, .str [], .val (.slice none 0 0), .val (.slice none 0 0)])] ?_
        refine To.weak (K' := [(2, .own 2 0), (3, vi o3.f_no), (4, vi o3.f_e)]) (L' := [(2, 26, [vi 0, .str [], ls [], tn8 []])]) (.cons (.refl _) (.cons (.refl _) (.cons (.refl _) .nil))) (.cons (.cons (.refl _) (.cons (.refl _) (.cons (.zero _ _) (.cons (.zeroT _ _ _) .nil)))) .nil) ?_
        cases h
        exact To.done hΓ (by kernel_rfl)
      · replace h := if_f hb h
        refine Wp.seq ?_
        obtain ⟨r4, hr4, h⟩ := bind_of h
        refine rr [] [(1, vb r4)] [] [2, 9, 75] [2, 9] [(2, .own 2 0), (9, .own 9 0), (75, vb (!r4))] [(2, 26, [vi 0, .str [], ls [], tn8 []]), (9, 26, qc9 r2.1)] [(true = true → CX Tryz.prog 26 [.agg (qc9 r2.1)] (vb r4))] (AllP.cons (fun _ => cx (ok_node_Right n r2.1 _ hr4)) AllP.nil) ?_
        refine To.thenN ?_
        refine Wp.cond (b := (!r4)) (by kernel_rfl) (fun hb => ?_) (fun hb => ?_)
        · replace h := if_t hb h
          refine Wp.seq ?_
          refine rg [2, 3, 4] [2] [(2, .own 2 0), (3, vi 0), (4, vi 9)] [(2, 26, [vi 0, .str [], .val (.slice none 0 0), .val (.slice none 0 0)])] ?_
          refine To.thenN (Wp.ret (To.blockR (To.thenR ?_)))
          refine kt [2, 3, 4] [2] [(2, .own 2 0), (3, vi 0), (4, vi 9)] [(2, 26, [vi 0, .str [], .val (.slice none 0 0), .val (.slice none 0 0)])] ?_
          refine To.weak (K' := [(2, .own 2 0), (3, vi 0), (4, vi 9)]) (L' := [(2, 26, [vi 0, .str [], ls [], tn8 []])]) (.cons (.refl _) (.cons (.refl _) (.cons (.refl _) .nil))) (.cons (.cons (.refl _) (.cons (.refl _) (.cons (.zero _ _) (.cons (.zeroT _ _ _) .nil)))) .nil) ?_
          cases h
          exact To.done hΓ (by kernel_rfl)
        · replace h := if_f hb h
          refine Wp.skip (To.blockN (To.thenN (Wp.seq ?_)))
          refine rg [2, 3, 4] [2] [(2, .own 2 0), (3, vi 0), (4, vi 0)] [(2, 26, qc9 r2.1)] ?_
          refine To.thenN (Wp.ret ?_)
          refine kt [2, 3, 4] [2] [(2, .own 2 0), (3, vi 0), (4, vi 0)] [(2, 26, qc9 r2.1)] ?_
          cases h
          exact To.done hΓ (by kernel_rfl)
def law10_awake (n : Nat) : Option (Bool) :=
  (block_Parse n [97, 58, 10, 45, 32, 120, 10, 45, 32, 98, 58, 32, 49, 10, 32, 32, 99, 58, 32, 91, 50, 93, 10]).bind fun r1 =>
  (block_Parse n [97, 58, 32, 49, 10, 32, 32, 98, 58, 32, 50, 10]).bind fun r2 =>
  if ((!((bif (bif (r1.2.2 == 0) then (r1.2.1 == 0) else false) then ((List.length r1.1.f_Keys : Int) == 1) else false) == true) || decide (0 ≤ (0 : Int) ∧ (0 : Int) < (List.length r1.1.f_Kids : Int)))) = true then (if ((!((bif (bif (bif (r1.2.2 == 0) then (r1.2.1 == 0) else false) then ((List.length r1.1.f_Keys : Int) == 1) else false) then ((List.length (((r1.1.f_Kids)[Int.toNat 0]?.getD (S_api_Node.mk 0 [] [] [])).f_Kids) : Int) == 2) else false) == true) || decide (0 ≤ (0 : Int) ∧ (0 : Int) < (List.length r1.1.f_Kids : Int)))) = true then (if ((!((bif (bif (bif (r1.2.2 == 0) then (r1.2.1 == 0) else false) then ((List.length r1.1.f_Keys : Int) == 1) else false) then ((List.length (((r1.1.f_Kids)[Int.toNat 0]?.getD (S_api_Node.mk 0 [] [] [])).f_Kids) : Int) == 2) else false) == true) || decide (0 ≤ (1 : Int) ∧ (1 : Int) < (List.length (((r1.1.f_Kids)[Int.toNat 0]?.getD (S_api_Node.mk 0 [] [] [])).f_Kids) : Int)))) = true then (lett ((bif (bif (bif (bif (bif (bif (r1.2.2 == 0) then (r1.2.1 == 0) else false) then ((List.length r1.1.f_Keys : Int) == 1) else false) then ((List.length (((r1.1.f_Kids)[Int.toNat 0]?.getD (S_api_Node.mk 0 [] [] [])).f_Kids) : Int) == 2) else false) then ((List.length (((((r1.1.f_Kids)[Int.toNat 0]?.getD (S_api_Node.mk 0 [] [] [])).f_Kids)[Int.toNat 1]?.getD (S_api_Node.mk 0 [] [] [])).f_Keys) : Int) == 2) else false) then (r2.2.1 == 2) else false) then (r2.2.2 == 3) else false) : Bool) fun x3 =>
  some x3) else none) else none) else none
theorem ok_law10_awake (n : Nat) (r : Bool) (h : law10_awake n = some r) : CallsX Tryz.prog 8 [] (vb r) := by
  unfold law10_awake at h
  refine callsX_of (fn := Tryz.f8) (by kernel_rfl) rfl (by kernel_rfl) (Nat.le_of_ble_eq_true (by kernel_rfl)) fun F0 w0 _ => ?_
  refine kw [] [] [] [] ?_
  refine Wp.seq ?_
  refine rg [] [] [] [] ?_
  refine To.thenN (Wp.seq ?_)
  obtain ⟨r1, hr1, h⟩ := bind_of h
  refine rr [] [(0, .tup [.agg (qc9 r1.1), vi r1.2.1, vi r1.2.2])] [] [1, 2, 3] [1] [(1, .own 1 0), (2, vi r1.2.1), (3, vi r1.2.2)] [(1, 26, qc9 r1.1)] [(true = true → CX Tryz.prog 9 [.str [97, 58, 10, 45, 32, 120, 10, 45, 32, 98, 58, 32, 49, 10, 32, 32, 99, 58, 32, 91, 50, 93, 10]] (.tup [.agg (qc9 r1.1), vi r1.2.1, vi r1.2.2]))] (AllP.cons (fun _ => cx (ok_block_Parse n [97, 58, 10, 45, 32, 120, 10, 45, 32, 98, 58, 32, 49, 10, 32, 32, 99, 58, 32, 91, 50, 93, 10] _ hr1)) AllP.nil) ?_
  refine To.thenN (Wp.seq ?_)
  obtain ⟨r2, hr2, h⟩ := bind_of h
  refine rr [] [(0, .tup [.agg (qc9 r2.1), vi r2.2.1, vi r2.2.2])] [] [1, 2, 3, 5, 6] [1] [(1, .own 1 0), (2, vi r1.2.1), (3, vi r1.2.2), (5, vi r2.2.1), (6, vi r2.2.2)] [(1, 26, qc9 r1.1)] [(true = true → CX Tryz.prog 9 [.str [97, 58, 32, 49, 10, 32, 32, 98, 58, 32, 50, 10]] (.tup [.agg (qc9 r2.1), vi r2.2.1, vi r2.2.2]))] (AllP.cons (fun _ => cx (ok_block_Parse n [97, 58, 32, 49, 10, 32, 32, 98, 58, 32, 50, 10] _ hr2)) AllP.nil) ?_
  refine To.thenN (Wp.seq ?_)
  obtain ⟨hc4, h⟩ := chk_of h
  obtain ⟨hc5, h⟩ := chk_of h
  obtain ⟨hc6, h⟩ := chk_of h
  obtain ⟨x3, hx3, h⟩ := lett_of h
  refine rr [] [] [] [0] [] [(0, vb (bif (bif (bif (bif (bif (bif (r1.2.2 == 0) then (r1.2.1 == 0) else false) then ((List.length r1.1.f_Keys : Int) == 1) else false) then ((List.length (((r1.1.f_Kids)[Int.toNat 0]?.getD zx7).f_Kids) : Int) == 2) else false) then ((List.length (((((r1.1.f_Kids)[Int.toNat 0]?.getD zx7).f_Kids)[Int.toNat 1]?.getD zx7).f_Keys) : Int) == 2) else false) then (r2.2.1 == 2) else false) then (r2.2.2 == 3) else false))] [] [(!((bif (bif (r1.2.2 == 0) then (r1.2.1 == 0) else false) then ((List.length r1.1.f_Keys : Int) == 1) else false) == true) || decide (0 ≤ (0 : Int) ∧ (0 : Int) < (List.length r1.1.f_Kids : Int))) = true, (!((bif (bif (bif (r1.2.2 == 0) then (r1.2.1 == 0) else false) then ((List.length r1.1.f_Keys : Int) == 1) else false) then ((List.length (((r1.1.f_Kids)[Int.toNat 0]?.getD zx7).f_Kids) : Int) == 2) else false) == true) || decide (0 ≤ (0 : Int) ∧ (0 : Int) < (List.length r1.1.f_Kids : Int))) = true, (!((bif (bif (bif (r1.2.2 == 0) then (r1.2.1 == 0) else false) then ((List.length r1.1.f_Keys : Int) == 1) else false) then ((List.length (((r1.1.f_Kids)[Int.toNat 0]?.getD zx7).f_Kids) : Int) == 2) else false) == true) || decide (0 ≤ (1 : Int) ∧ (1 : Int) < (List.length (((r1.1.f_Kids)[Int.toNat 0]?.getD zx7).f_Kids) : Int))) = true] (AllP.cons hc4 (AllP.cons hc5 (AllP.cons hc6 AllP.nil))) ?_
  refine To.eq (K' := [(0, vb x3)]) (L' := []) (by cases hx3; rfl) (by cases hx3; rfl) ?_
  refine To.thenN (Wp.ret ?_)
  refine kt [0] [] [(0, vb x3)] [] ?_
  cases h
  exact To.done hΓ (by kernel_rfl)
def ref06_Good (a0 : Int) : Bool :=
  (bif (bif (decide (a0 ≥ 32)) then (decide (a0 ≤ 126)) else false) then true else (decide (a0 ≥ 128)))
theorem ok_ref06_Good (a0 : Int) (r : Bool) (h : ref06_Good a0 = r) : CallsX Tryz.prog 75 [.val (.int .u8 a0)] (vb r) := by
  unfold ref06_Good at h
  refine callsX_of (fn := Tryz.f75) (by kernel_rfl) rfl (by kernel_rfl) (Nat.le_of_ble_eq_true (by kernel_rfl)) fun F0 w0 _ => ?_
  refine kw [0] [] [(0, .val (.int .u8 a0))] [] ?_
  refine Wp.seq ?_
  refine rg [0] [] [(0, .val (.int .u8 a0))] [] ?_
  refine To.thenN (Wp.seq ?_)
  refine rg [2] [] [(2, vb (bif (bif (decide (a0 ≥ 32)) then (decide (a0 ≤ 126)) else false) then true else (decide (a0 ≥ 128))))] [] ?_
  refine To.thenN (Wp.ret ?_)
  refine kt [2] [] [(2, vb (bif (bif (decide (a0 ≥ 32)) then (decide (a0 ≤ 126)) else false) then true else (decide (a0 ≥ 128))))] [] ?_
  cases h
  exact To.done hΓ (by kernel_rfl)
def ref06_value (a0 : Int) : Int :=
  if (bif (decide (a0 ≥ 48)) then (decide (a0 ≤ 57)) else false) = true then ((IntKind.wrap .i64 ((IntKind.wrap .i64 (a0)) - 48)))
  else (if (bif (decide (a0 ≥ 97)) then (decide (a0 ≤ 102)) else false) = true then ((IntKind.wrap .i64 ((IntKind.wrap .i64 (a0)) - 87)))
  else (if (bif (decide (a0 ≥ 65)) then (decide (a0 ≤ 70)) else false) = true then ((IntKind.wrap .i64 ((IntKind.wrap .i64 (a0)) - 55)))
  else 16))
theorem ok_ref06_value (a0 : Int) (r : Int) (h : ref06_value a0 = r) : CallsX Tryz.prog 104 [.val (.int .u8 a0)] (vi r) := by
  unfold ref06_value at h
  refine callsX_of (fn := Tryz.f104) (by kernel_rfl) rfl (by kernel_rfl) (Nat.le_of_ble_eq_true (by kernel_rfl)) fun F0 w0 _ => ?_
  refine kw [0] [] [(0, .val (.int .u8 a0))] [] ?_
  refine Wp.seq ?_
  refine rg [0] [] [(0, .val (.int .u8 a0))] [] ?_
  refine To.thenN (Wp.seq (Wp.seq ?_))
  refine rg [0, 8] [] [(0, .val (.int .u8 a0)), (8, vb (bif (decide (a0 ≥ 48)) then (decide (a0 ≤ 57)) else false))] [] ?_
  refine To.thenN ?_
  refine Wp.cond (b := (bif (decide (a0 ≥ 48)) then (decide (a0 ≤ 57)) else false)) (by kernel_rfl) (fun hb => ?_) (fun hb => ?_)
  · replace h := if_t hb h
    refine Wp.seq ?_
    refine rg [2] [] [(2, vi (IntKind.wrap .i64 ((IntKind.wrap .i64 (a0)) - 48)))] [] ?_
    refine To.thenN (Wp.ret (To.thenR ?_))
    refine kt [2] [] [(2, vi (IntKind.wrap .i64 ((IntKind.wrap .i64 (a0)) - 48)))] [] ?_
    cases h
    exact To.done hΓ (by kernel_rfl)
  · replace h := if_f hb h
    refine Wp.skip (To.thenN (Wp.seq (Wp.seq ?_)))
    refine rg [0, 17] [] [(0, .val (.int .u8 a0)), (17, vb (bif (decide (a0 ≥ 97)) then (decide (a0 ≤ 102)) else false))] [] ?_
    refine To.thenN ?_
    refine Wp.cond (b := (bif (decide (a0 ≥ 97)) then (decide (a0 ≤ 102)) else false)) (by kernel_rfl) (fun hb => ?_) (fun hb => ?_)
    · replace h := if_t hb h
      refine Wp.seq ?_
      refine rg [2] [] [(2, vi (IntKind.wrap .i64 ((IntKind.wrap .i64 (a0)) - 87)))] [] ?_
      refine To.thenN (Wp.ret (To.thenR ?_))
      refine kt [2] [] [(2, vi (IntKind.wrap .i64 ((IntKind.wrap .i64 (a0)) - 87)))] [] ?_
      cases h
      exact To.done hΓ (by kernel_rfl)
    · replace h := if_f hb h
      refine Wp.skip (To.thenN (Wp.seq (Wp.seq ?_)))
      refine rg [0, 26] [] [(0, .val (.int .u8 a0)), (26, vb (bif (decide (a0 ≥ 65)) then (decide (a0 ≤ 70)) else false))] [] ?_
      refine To.thenN ?_
      refine Wp.cond (b := (bif (decide (a0 ≥ 65)) then (decide (a0 ≤ 70)) else false)) (by kernel_rfl) (fun hb => ?_) (fun hb => ?_)
      · replace h := if_t hb h
        refine Wp.seq ?_
        refine rg [2] [] [(2, vi (IntKind.wrap .i64 ((IntKind.wrap .i64 (a0)) - 55)))] [] ?_
        refine To.thenN (Wp.ret (To.thenR ?_))
        refine kt [2] [] [(2, vi (IntKind.wrap .i64 ((IntKind.wrap .i64 (a0)) - 55)))] [] ?_
        cases h
        exact To.done hΓ (by kernel_rfl)
      · replace h := if_f hb h
        refine Wp.skip (To.thenN (Wp.seq ?_))
        refine rg [2] [] [(2, vi 16)] [] ?_
        refine To.thenN (Wp.ret ?_)
        refine kt [2] [] [(2, vi 16)] [] ?_
        cases h
        exact To.done hΓ (by kernel_rfl)
def ref06_double_l1 (n : Nat) (v0 : List UInt8) : Nat → Int → (List (UInt8)) → Option (Sum (Unit) ((List UInt8) × Int × Bool))
  | 0, _, _ => none
  | k + 1, v1, v7 => if (decide (v1 < (List.length v0 : Int))) = true then (if (decide (0 ≤ v1 ∧ v1 < (List.length v0 : Int))) = true then (if (!(ref06_Good (((v0)[Int.toNat v1]?.getD 0).toNat : Int))) = true then (some (.inr ([], 0, false)))
  else (if ((((v0)[Int.toNat v1]?.getD 0).toNat : Int) == 34) = true then (some (.inr (v7, (IntKind.wrap .i64 (v1 + 1)), true)))
  else (if ((((v0)[Int.toNat v1]?.getD 0).toNat : Int) != 92) = true then (if (decide ((List.length v7 + List.length ([((v0)[Int.toNat v1]?.getD 0)] : List (UInt8))) * (1 + 1) ≤ limit)) = true then (ref06_double_l1 n v0 k (IntKind.wrap .i64 (v1 + 1)) (v7 ++ ([((v0)[Int.toNat v1]?.getD 0)] : List (UInt8)))) else none)
  else (if (decide ((IntKind.wrap .i64 (v1 + 1)) ≥ (List.length v0 : Int))) = true then (some (.inr ([], 0, false)))
  else (if (decide (0 ≤ (IntKind.wrap .i64 (v1 + 1)) ∧ (IntKind.wrap .i64 (v1 + 1)) < (List.length v0 : Int))) = true then (lett ((bif ((((v0)[Int.toNat (IntKind.wrap .i64 (v1 + 1))]?.getD 0).toNat : Int) == 92) then true else ((((v0)[Int.toNat (IntKind.wrap .i64 (v1 + 1))]?.getD 0).toNat : Int) == 34)) : Bool) fun x2 =>
  if x2 = true then (if (decide ((List.length v7 + List.length ([((v0)[Int.toNat (IntKind.wrap .i64 (v1 + 1))]?.getD 0)] : List (UInt8))) * (1 + 1) ≤ limit)) = true then (ref06_double_l1 n v0 k (IntKind.wrap .i64 (v1 + 2)) (v7 ++ ([((v0)[Int.toNat (IntKind.wrap .i64 (v1 + 1))]?.getD 0)] : List (UInt8)))) else none)
  else (if ((((v0)[Int.toNat (IntKind.wrap .i64 (v1 + 1))]?.getD 0).toNat : Int) == 110) = true then (if (decide ((List.length v7 + List.length ([10] : List (UInt8))) * (1 + 1) ≤ limit)) = true then (ref06_double_l1 n v0 k (IntKind.wrap .i64 (v1 + 2)) (v7 ++ ([10] : List (UInt8)))) else none)
  else (if ((((v0)[Int.toNat (IntKind.wrap .i64 (v1 + 1))]?.getD 0).toNat : Int) == 116) = true then (if (decide ((List.length v7 + List.length ([9] : List (UInt8))) * (1 + 1) ≤ limit)) = true then (ref06_double_l1 n v0 k (IntKind.wrap .i64 (v1 + 2)) (v7 ++ ([9] : List (UInt8)))) else none)
  else (if ((!((bif ((((v0)[Int.toNat (IntKind.wrap .i64 (v1 + 1))]?.getD 0).toNat : Int) == 120) then (decide ((IntKind.wrap .i64 (v1 + 3)) < (List.length v0 : Int))) else false) == true) || decide (0 ≤ (IntKind.wrap .i64 (v1 + 2)) ∧ (IntKind.wrap .i64 (v1 + 2)) < (List.length v0 : Int)))) = true then (lett (ref06_value (((v0)[Int.toNat (IntKind.wrap .i64 (v1 + 2))]?.getD 0).toNat : Int)) fun r6 =>
  if ((!((bif (bif ((((v0)[Int.toNat (IntKind.wrap .i64 (v1 + 1))]?.getD 0).toNat : Int) == 120) then (decide ((IntKind.wrap .i64 (v1 + 3)) < (List.length v0 : Int))) else false) then (decide (r6 < 16)) else false) == true) || decide (0 ≤ (IntKind.wrap .i64 (v1 + 3)) ∧ (IntKind.wrap .i64 (v1 + 3)) < (List.length v0 : Int)))) = true then (lett (ref06_value (((v0)[Int.toNat (IntKind.wrap .i64 (v1 + 3))]?.getD 0).toNat : Int)) fun r7 =>
  lett ((bif (bif (bif ((((v0)[Int.toNat (IntKind.wrap .i64 (v1 + 1))]?.getD 0).toNat : Int) == 120) then (decide ((IntKind.wrap .i64 (v1 + 3)) < (List.length v0 : Int))) else false) then (decide (r6 < 16)) else false) then (decide (r7 < 16)) else false) : Bool) fun x8 =>
  if x8 = true then (if (decide (0 ≤ (IntKind.wrap .i64 (v1 + 2)) ∧ (IntKind.wrap .i64 (v1 + 2)) < (List.length v0 : Int))) = true then (lett (ref06_value (((v0)[Int.toNat (IntKind.wrap .i64 (v1 + 2))]?.getD 0).toNat : Int)) fun r9 =>
  if (decide (0 ≤ (IntKind.wrap .i64 (v1 + 3)) ∧ (IntKind.wrap .i64 (v1 + 3)) < (List.length v0 : Int))) = true then (lett (ref06_value (((v0)[Int.toNat (IntKind.wrap .i64 (v1 + 3))]?.getD 0).toNat : Int)) fun r10 =>
  if (decide (0 ≤ (IntKind.wrap .u8 ((IntKind.wrap .i64 ((IntKind.wrap .i64 (r9 * 16)) + r10)))) ∧ (IntKind.wrap .u8 ((IntKind.wrap .i64 ((IntKind.wrap .i64 (r9 * 16)) + r10)))) < 256)) = true then (if (decide ((List.length v7 + List.length ([(UInt8.ofNat (Int.toNat (IntKind.wrap .u8 ((IntKind.wrap .i64 ((IntKind.wrap .i64 (r9 * 16)) + r10))))))] : List (UInt8))) * (1 + 1) ≤ limit)) = true then (lett ((v7 ++ ([(UInt8.ofNat (Int.toNat (IntKind.wrap .u8 ((IntKind.wrap .i64 ((IntKind.wrap .i64 (r9 * 16)) + r10))))))] : List (UInt8))) : List (UInt8)) fun x12 =>
  ref06_double_l1 n v0 k (IntKind.wrap .i64 (v1 + 4)) x12) else none) else none) else none) else none)
  else (some (.inr ([], 0, false)))) else none) else none)))) else none))))) else none)
  else (some (.inl ()))
theorem ok_ref06_double_l1 (n : Nat) (v0 : List UInt8) {F0 : Fz} {w0 : Pt Tryz.prog} {Q : Exit → Act → World → Prop} (k : Nat) : ∀ (v1 : Int) (v7 : List (UInt8)) (o : Sum (Unit) ((List UInt8) × Int × Bool)), ref06_double_l1 n v0 k v1 v7 = some o → (Sum.elim (fun s => To 113 F0 w0 [] [] (.exit 0) Q) (fun s => To 113 F0 w0 [(4, .str s.1), (5, vi s.2.1), (6, vb s.2.2)] [] .ret Q)) o → WL Tryz.prog 113 F0 w0 [(0, .str v0), (1, vi v1), (7, .row 1007)] [(1007, 5, [rc1 v7])] (cI (cI (cA (cB (cB (cF Tryz.f72)))))) Q := by
  induction k with
  | zero => intro v1 v7 o h; cases h
  | succ k ih =>
    intro v1 v7 o h hQ
    rw [ref06_double_l1] at h
    refine WL.round (Wp.seq (Wp.seq ?_))
    refine rg [0, 1, 7, 14] [1007] [(0, .str v0), (1, vi v1), (7, .row 1007), (14, vb (decide (v1 < (List.length v0 : Int))))] [(1007, 5, [rc1 v7])] ?_
    refine To.thenN ?_
    refine Wp.cond (b := (decide (v1 < (List.length v0 : Int)))) (by kernel_rfl) (fun hb => ?_) (fun hb => ?_)
    · replace h := if_t hb h
      refine Wp.skip (To.thenN (Wp.block (Wp.seq ?_)))
      obtain ⟨hc19, h⟩ := chk_of h
      refine rr [] [] [] [0, 1, 7, 8] [1007] [(0, .str v0), (1, vi v1), (7, .row 1007), (8, .val (.int .u8 (((v0)[Int.toNat v1]?.getD 0).toNat : Int)))] [(1007, 5, [rc1 v7])] [(decide (0 ≤ v1 ∧ v1 < (List.length v0 : Int))) = true] (AllP.cons hc19 AllP.nil) ?_
      refine To.thenN (Wp.seq (Wp.seq ?_))
      refine rr [] [(1, vb (ref06_Good (((v0)[Int.toNat v1]?.getD 0).toNat : Int)))] [] [0, 1, 7, 8, 20] [1007] [(0, .str v0), (1, vi v1), (7, .row 1007), (8, .val (.int .u8 (((v0)[Int.toNat v1]?.getD 0).toNat : Int))), (20, vb (!(ref06_Good (((v0)[Int.toNat v1]?.getD 0).toNat : Int))))] [(1007, 5, [rc1 v7])] [(true = true → CX Tryz.prog 75 [.val (.int .u8 (((v0)[Int.toNat v1]?.getD 0).toNat : Int))] (vb (ref06_Good (((v0)[Int.toNat v1]?.getD 0).toNat : Int))))] (AllP.cons (fun _ => cx (ok_ref06_Good (((v0)[Int.toNat v1]?.getD 0).toNat : Int) _ rfl)) AllP.nil) ?_
      refine To.thenN ?_
      refine Wp.cond (b := (!(ref06_Good (((v0)[Int.toNat v1]?.getD 0).toNat : Int)))) (by kernel_rfl) (fun hb => ?_) (fun hb => ?_)
      · replace h := if_t hb h
        refine Wp.seq ?_
        refine rg [4, 5, 6] [] [(4, .str []), (5, vi 0), (6, vb false)] [] ?_
        refine To.thenN (Wp.ret (To.thenR (To.blockR (To.thenR ?_))))
        refine kt [4, 5, 6] [] [(4, .str []), (5, vi 0), (6, vb false)] [] ?_
        cases h
        exact hQ
      · replace h := if_f hb h
        refine Wp.skip (To.thenN (Wp.seq (Wp.seq ?_)))
        refine rg [0, 1, 7, 8, 22] [1007] [(0, .str v0), (1, vi v1), (7, .row 1007), (8, .val (.int .u8 (((v0)[Int.toNat v1]?.getD 0).toNat : Int))), (22, vb ((((v0)[Int.toNat v1]?.getD 0).toNat : Int) == 34))] [(1007, 5, [rc1 v7])] ?_
        refine To.thenN ?_
        refine Wp.cond (b := ((((v0)[Int.toNat v1]?.getD 0).toNat : Int) == 34)) (by kernel_rfl) (fun hb => ?_) (fun hb => ?_)
        · replace h := if_t hb h
          refine Wp.seq ?_
          refine rr [] [(1, .str v7)] [] [4, 5, 6] [] [(4, .str v7), (5, vi (IntKind.wrap .i64 (v1 + 1))), (6, vb true)] [] [(true = true → StrOb (List.flatMap e8 v7) (.str v7))] (AllP.cons (fun _ => strOb (flat8 _)) AllP.nil) ?_
          refine To.thenN (Wp.ret (To.thenR (To.blockR (To.thenR ?_))))
          refine kt [4, 5, 6] [] [(4, .str v7), (5, vi (IntKind.wrap .i64 (v1 + 1))), (6, vb true)] [] ?_
          cases h
          exact hQ
        · replace h := if_f hb h
          refine Wp.skip (To.thenN (Wp.seq (Wp.seq ?_)))
          refine rg [0, 1, 7, 8, 28] [1007] [(0, .str v0), (1, vi v1), (7, .row 1007), (8, .val (.int .u8 (((v0)[Int.toNat v1]?.getD 0).toNat : Int))), (28, vb ((((v0)[Int.toNat v1]?.getD 0).toNat : Int) != 92))] [(1007, 5, [rc1 v7])] ?_
          refine To.thenN ?_
          refine Wp.cond (b := ((((v0)[Int.toNat v1]?.getD 0).toNat : Int) != 92)) (by kernel_rfl) (fun hb => ?_) (fun hb => ?_)
          · replace h := if_t hb h
            refine Wp.seq ?_
            obtain ⟨hc1, h⟩ := chk_of h
            refine rr [] [(2, rs2 ([((v0)[Int.toNat v1]?.getD 0)])), (3, rs2 (v7 ++ ([((v0)[Int.toNat v1]?.getD 0)] : List (UInt8))))] [] [0, 1, 7] [32] [(0, .str v0), (1, vi v1), (7, .row 32)] [(32, 5, [rc1 (v7 ++ ([((v0)[Int.toNat v1]?.getD 0)] : List (UInt8)))])] [(MkOb 1 [.val (.int .u8 (((v0)[Int.toNat v1]?.getD 0).toNat : Int))] 1 (rs2 ([((v0)[Int.toNat v1]?.getD 0)])) ∧ GoodR (rs2 ([((v0)[Int.toNat v1]?.getD 0)]))), (decide ((List.length v7 + List.length ([((v0)[Int.toNat v1]?.getD 0)] : List (UInt8))) * (1 + 1) ≤ limit)) = true, (AppOb 0 e8 v7 (List.flatMap e8 ([((v0)[Int.toNat v1]?.getD 0)] : List (UInt8))) (List.length ([((v0)[Int.toNat v1]?.getD 0)] : List (UInt8))) (rs2 (v7 ++ ([((v0)[Int.toNat v1]?.getD 0)] : List (UInt8)))) ∧ GoodR (rs2 (v7 ++ ([((v0)[Int.toNat v1]?.getD 0)] : List (UInt8)))))] (AllP.cons (mkOb (All8.cells (ns := [(((v0)[Int.toNat v1]?.getD 0).toNat : Int)]) (.cons rfl .nil)) rfl rfl (good8 _)) (AllP.cons hc1 (AllP.cons (appOb rfl rfl (good8 _)) AllP.nil))) ?_
            refine To.thenN (Wp.seq ?_)
            refine rg [0, 1, 7] [32] [(0, .str v0), (1, vi (IntKind.wrap .i64 (v1 + 1))), (7, .row 32)] [(32, 5, [rc1 (v7 ++ ([((v0)[Int.toNat v1]?.getD 0)] : List (UInt8)))])] ?_
            refine To.thenN (Wp.exit (To.thenX (To.blockX ?_)))
            refine kt [0, 1, 7] [32] [(0, .str v0), (1, vi (IntKind.wrap .i64 (v1 + 1))), (7, .row 32)] [(32, 5, [rc1 (v7 ++ ([((v0)[Int.toNat v1]?.getD 0)] : List (UInt8)))])] ?_
            refine To.pre (St.rename 32 1007 (by decide) (K' := [(0, .str v0), (1, vi (IntKind.wrap .i64 (v1 + 1))), (7, .row 1007)]) (L' := [(1007, 5, [rc1 (v7 ++ ([((v0)[Int.toNat v1]?.getD 0)] : List (UInt8)))])]) (by kernel_rfl) (by kernel_rfl) (by kernel_rfl)) ?_
            refine kt [0, 1, 7] [1007] [(0, .str v0), (1, vi (IntKind.wrap .i64 (v1 + 1))), (7, .row 1007)] [(1007, 5, [rc1 (v7 ++ ([((v0)[Int.toNat v1]?.getD 0)] : List (UInt8)))])] ?_
            refine To.again ?_
            exact ih (IntKind.wrap .i64 (v1 + 1)) (v7 ++ ([((v0)[Int.toNat v1]?.getD 0)] : List (UInt8))) _ h hQ
          · replace h := if_f hb h
            refine Wp.skip (To.thenN (Wp.seq (Wp.seq ?_)))
            refine rg [0, 1, 7, 39] [1007] [(0, .str v0), (1, vi v1), (7, .row 1007), (39, vb (decide ((IntKind.wrap .i64 (v1 + 1)) ≥ (List.length v0 : Int))))] [(1007, 5, [rc1 v7])] ?_
            refine To.thenN ?_
            refine Wp.cond (b := (decide ((IntKind.wrap .i64 (v1 + 1)) ≥ (List.length v0 : Int)))) (by kernel_rfl) (fun hb => ?_) (fun hb => ?_)
            · replace h := if_t hb h
              refine Wp.seq ?_
              refine rg [4, 5, 6] [] [(4, .str []), (5, vi 0), (6, vb false)] [] ?_
              refine To.thenN (Wp.ret (To.thenR (To.blockR (To.thenR ?_))))
              refine kt [4, 5, 6] [] [(4, .str []), (5, vi 0), (6, vb false)] [] ?_
              cases h
              exact hQ
            · replace h := if_f hb h
              refine Wp.skip (To.thenN (Wp.seq ?_))
              obtain ⟨hc18, h⟩ := chk_of h
              refine rr [] [] [] [0, 1, 7, 9] [1007] [(0, .str v0), (1, vi v1), (7, .row 1007), (9, .val (.int .u8 (((v0)[Int.toNat (IntKind.wrap .i64 (v1 + 1))]?.getD 0).toNat : Int)))] [(1007, 5, [rc1 v7])] [(decide (0 ≤ (IntKind.wrap .i64 (v1 + 1)) ∧ (IntKind.wrap .i64 (v1 + 1)) < (List.length v0 : Int))) = true] (AllP.cons hc18 AllP.nil) ?_
              refine To.thenN (Wp.seq ?_)
              obtain ⟨x2, hx2, h⟩ := lett_of h
              refine rg [0, 1, 7, 9, 49] [1007] [(0, .str v0), (1, vi v1), (7, .row 1007), (9, .val (.int .u8 (((v0)[Int.toNat (IntKind.wrap .i64 (v1 + 1))]?.getD 0).toNat : Int))), (49, vb (bif ((((v0)[Int.toNat (IntKind.wrap .i64 (v1 + 1))]?.getD 0).toNat : Int) == 92) then true else ((((v0)[Int.toNat (IntKind.wrap .i64 (v1 + 1))]?.getD 0).toNat : Int) == 34)))] [(1007, 5, [rc1 v7])] ?_
              refine To.eq (K' := [(0, .str v0), (1, vi v1), (7, .row 1007), (9, .val (.int .u8 (((v0)[Int.toNat (IntKind.wrap .i64 (v1 + 1))]?.getD 0).toNat : Int))), (49, vb x2)]) (L' := [(1007, 5, [rc1 v7])]) (by cases hx2; rfl) (by cases hx2; rfl) ?_
              refine To.thenN ?_
              refine Wp.cond (b := x2) (by kernel_rfl) (fun hb => ?_) (fun hb => ?_)
              · replace h := if_t hb h
                refine Wp.seq ?_
                obtain ⟨hc3, h⟩ := chk_of h
                refine rr [] [(2, rs2 ([((v0)[Int.toNat (IntKind.wrap .i64 (v1 + 1))]?.getD 0)])), (3, rs2 (v7 ++ ([((v0)[Int.toNat (IntKind.wrap .i64 (v1 + 1))]?.getD 0)] : List (UInt8))))] [] [0, 1, 7] [53] [(0, .str v0), (1, vi v1), (7, .row 53)] [(53, 5, [rc1 (v7 ++ ([((v0)[Int.toNat (IntKind.wrap .i64 (v1 + 1))]?.getD 0)] : List (UInt8)))])] [(MkOb 1 [.val (.int .u8 (((v0)[Int.toNat (IntKind.wrap .i64 (v1 + 1))]?.getD 0).toNat : Int))] 1 (rs2 ([((v0)[Int.toNat (IntKind.wrap .i64 (v1 + 1))]?.getD 0)])) ∧ GoodR (rs2 ([((v0)[Int.toNat (IntKind.wrap .i64 (v1 + 1))]?.getD 0)]))), (decide ((List.length v7 + List.length ([((v0)[Int.toNat (IntKind.wrap .i64 (v1 + 1))]?.getD 0)] : List (UInt8))) * (1 + 1) ≤ limit)) = true, (AppOb 0 e8 v7 (List.flatMap e8 ([((v0)[Int.toNat (IntKind.wrap .i64 (v1 + 1))]?.getD 0)] : List (UInt8))) (List.length ([((v0)[Int.toNat (IntKind.wrap .i64 (v1 + 1))]?.getD 0)] : List (UInt8))) (rs2 (v7 ++ ([((v0)[Int.toNat (IntKind.wrap .i64 (v1 + 1))]?.getD 0)] : List (UInt8)))) ∧ GoodR (rs2 (v7 ++ ([((v0)[Int.toNat (IntKind.wrap .i64 (v1 + 1))]?.getD 0)] : List (UInt8)))))] (AllP.cons (mkOb (All8.cells (ns := [(((v0)[Int.toNat (IntKind.wrap .i64 (v1 + 1))]?.getD 0).toNat : Int)]) (.cons rfl .nil)) rfl rfl (good8 _)) (AllP.cons hc3 (AllP.cons (appOb rfl rfl (good8 _)) AllP.nil))) ?_
                refine To.thenN ?_
                refine rg [0, 1, 7] [53] [(0, .str v0), (1, vi (IntKind.wrap .i64 (v1 + 2))), (7, .row 53)] [(53, 5, [rc1 (v7 ++ ([((v0)[Int.toNat (IntKind.wrap .i64 (v1 + 1))]?.getD 0)] : List (UInt8)))])] ?_
                refine To.blockN ?_
                refine kt [0, 1, 7] [53] [(0, .str v0), (1, vi (IntKind.wrap .i64 (v1 + 2))), (7, .row 53)] [(53, 5, [rc1 (v7 ++ ([((v0)[Int.toNat (IntKind.wrap .i64 (v1 + 1))]?.getD 0)] : List (UInt8)))])] ?_
                refine To.pre (St.rename 53 1007 (by decide) (K' := [(0, .str v0), (1, vi (IntKind.wrap .i64 (v1 + 2))), (7, .row 1007)]) (L' := [(1007, 5, [rc1 (v7 ++ ([((v0)[Int.toNat (IntKind.wrap .i64 (v1 + 1))]?.getD 0)] : List (UInt8)))])]) (by kernel_rfl) (by kernel_rfl) (by kernel_rfl)) ?_
                refine kt [0, 1, 7] [1007] [(0, .str v0), (1, vi (IntKind.wrap .i64 (v1 + 2))), (7, .row 1007)] [(1007, 5, [rc1 (v7 ++ ([((v0)[Int.toNat (IntKind.wrap .i64 (v1 + 1))]?.getD 0)] : List (UInt8)))])] ?_
                refine To.again ?_
                exact ih (IntKind.wrap .i64 (v1 + 2)) (v7 ++ ([((v0)[Int.toNat (IntKind.wrap .i64 (v1 + 1))]?.getD 0)] : List (UInt8))) _ h hQ
              · replace h := if_f hb h
                refine Wp.seq ?_
                refine rg [0, 1, 7, 9, 57] [1007] [(0, .str v0), (1, vi v1), (7, .row 1007), (9, .val (.int .u8 (((v0)[Int.toNat (IntKind.wrap .i64 (v1 + 1))]?.getD 0).toNat : Int))), (57, vb ((((v0)[Int.toNat (IntKind.wrap .i64 (v1 + 1))]?.getD 0).toNat : Int) == 110))] [(1007, 5, [rc1 v7])] ?_
                refine To.thenN ?_
                refine Wp.cond (b := ((((v0)[Int.toNat (IntKind.wrap .i64 (v1 + 1))]?.getD 0).toNat : Int) == 110)) (by kernel_rfl) (fun hb => ?_) (fun hb => ?_)
                · replace h := if_t hb h
                  refine Wp.seq ?_
                  obtain ⟨hc4, h⟩ := chk_of h
                  refine rr [] [(1, rs2 [10]), (2, rs2 (v7 ++ ([10] : List (UInt8))))] [] [0, 1, 7] [60] [(0, .str v0), (1, vi v1), (7, .row 60)] [(60, 5, [rc1 (v7 ++ ([10] : List (UInt8)))])] [(MkOb 1 [.val (.int .u8 10)] 1 (rs2 [10]) ∧ GoodR (rs2 [10])), (decide ((List.length v7 + List.length ([10] : List (UInt8))) * (1 + 1) ≤ limit)) = true, (AppOb 0 e8 v7 (List.flatMap e8 ([10] : List (UInt8))) (List.length ([10] : List (UInt8))) (rs2 (v7 ++ ([10] : List (UInt8)))) ∧ GoodR (rs2 (v7 ++ ([10] : List (UInt8)))))] (AllP.cons (mkOb (All8.cells (ns := [10]) (.cons rfl .nil)) rfl rfl (good8 _)) (AllP.cons hc4 (AllP.cons (appOb rfl rfl (good8 _)) AllP.nil))) ?_
                  refine To.thenN ?_
                  refine rg [0, 1, 7] [60] [(0, .str v0), (1, vi (IntKind.wrap .i64 (v1 + 2))), (7, .row 60)] [(60, 5, [rc1 (v7 ++ ([10] : List (UInt8)))])] ?_
                  refine To.blockN ?_
                  refine kt [0, 1, 7] [60] [(0, .str v0), (1, vi (IntKind.wrap .i64 (v1 + 2))), (7, .row 60)] [(60, 5, [rc1 (v7 ++ ([10] : List (UInt8)))])] ?_
                  refine To.pre (St.rename 60 1007 (by decide) (K' := [(0, .str v0), (1, vi (IntKind.wrap .i64 (v1 + 2))), (7, .row 1007)]) (L' := [(1007, 5, [rc1 (v7 ++ ([10] : List (UInt8)))])]) (by kernel_rfl) (by kernel_rfl) (by kernel_rfl)) ?_
                  refine kt [0, 1, 7] [1007] [(0, .str v0), (1, vi (IntKind.wrap .i64 (v1 + 2))), (7, .row 1007)] [(1007, 5, [rc1 (v7 ++ ([10] : List (UInt8)))])] ?_
                  refine To.again ?_
                  exact ih (IntKind.wrap .i64 (v1 + 2)) (v7 ++ ([10] : List (UInt8))) _ h hQ
                · replace h := if_f hb h
                  refine Wp.seq ?_
                  refine rg [0, 1, 7, 9, 64] [1007] [(0, .str v0), (1, vi v1), (7, .row 1007), (9, .val (.int .u8 (((v0)[Int.toNat (IntKind.wrap .i64 (v1 + 1))]?.getD 0).toNat : Int))), (64, vb ((((v0)[Int.toNat (IntKind.wrap .i64 (v1 + 1))]?.getD 0).toNat : Int) == 116))] [(1007, 5, [rc1 v7])] ?_
                  refine To.thenN ?_
                  refine Wp.cond (b := ((((v0)[Int.toNat (IntKind.wrap .i64 (v1 + 1))]?.getD 0).toNat : Int) == 116)) (by kernel_rfl) (fun hb => ?_) (fun hb => ?_)
                  · replace h := if_t hb h
                    refine Wp.seq ?_
                    obtain ⟨hc5, h⟩ := chk_of h
                    refine rr [] [(1, rs2 [9]), (2, rs2 (v7 ++ ([9] : List (UInt8))))] [] [0, 1, 7] [67] [(0, .str v0), (1, vi v1), (7, .row 67)] [(67, 5, [rc1 (v7 ++ ([9] : List (UInt8)))])] [(MkOb 1 [.val (.int .u8 9)] 1 (rs2 [9]) ∧ GoodR (rs2 [9])), (decide ((List.length v7 + List.length ([9] : List (UInt8))) * (1 + 1) ≤ limit)) = true, (AppOb 0 e8 v7 (List.flatMap e8 ([9] : List (UInt8))) (List.length ([9] : List (UInt8))) (rs2 (v7 ++ ([9] : List (UInt8)))) ∧ GoodR (rs2 (v7 ++ ([9] : List (UInt8)))))] (AllP.cons (mkOb (All8.cells (ns := [9]) (.cons rfl .nil)) rfl rfl (good8 _)) (AllP.cons hc5 (AllP.cons (appOb rfl rfl (good8 _)) AllP.nil))) ?_
                    refine To.thenN ?_
                    refine rg [0, 1, 7] [67] [(0, .str v0), (1, vi (IntKind.wrap .i64 (v1 + 2))), (7, .row 67)] [(67, 5, [rc1 (v7 ++ ([9] : List (UInt8)))])] ?_
                    refine To.blockN ?_
                    refine kt [0, 1, 7] [67] [(0, .str v0), (1, vi (IntKind.wrap .i64 (v1 + 2))), (7, .row 67)] [(67, 5, [rc1 (v7 ++ ([9] : List (UInt8)))])] ?_
                    refine To.pre (St.rename 67 1007 (by decide) (K' := [(0, .str v0), (1, vi (IntKind.wrap .i64 (v1 + 2))), (7, .row 1007)]) (L' := [(1007, 5, [rc1 (v7 ++ ([9] : List (UInt8)))])]) (by kernel_rfl) (by kernel_rfl) (by kernel_rfl)) ?_
                    refine kt [0, 1, 7] [1007] [(0, .str v0), (1, vi (IntKind.wrap .i64 (v1 + 2))), (7, .row 1007)] [(1007, 5, [rc1 (v7 ++ ([9] : List (UInt8)))])] ?_
                    refine To.again ?_
                    exact ih (IntKind.wrap .i64 (v1 + 2)) (v7 ++ ([9] : List (UInt8))) _ h hQ
                  · replace h := if_f hb h
                    refine Wp.seq ?_
                    obtain ⟨hc16, h⟩ := chk_of h
                    obtain ⟨r6, hr6, h⟩ := lett_of h
                    obtain ⟨hc17, h⟩ := chk_of h
                    obtain ⟨r7, hr7, h⟩ := lett_of h
                    obtain ⟨x8, hx8, h⟩ := lett_of h
                    refine rr [] [(14, vi r6), (22, vi r7)] [] [0, 1, 7, 94] [1007] [(0, .str v0), (1, vi v1), (7, .row 1007), (94, vb (bif (bif (bif ((((v0)[Int.toNat (IntKind.wrap .i64 (v1 + 1))]?.getD 0).toNat : Int) == 120) then (decide ((IntKind.wrap .i64 (v1 + 3)) < (List.length v0 : Int))) else false) then (decide (r6 < 16)) else false) then (decide (r7 < 16)) else false))] [(1007, 5, [rc1 v7])] [(!((bif ((((v0)[Int.toNat (IntKind.wrap .i64 (v1 + 1))]?.getD 0).toNat : Int) == 120) then (decide ((IntKind.wrap .i64 (v1 + 3)) < (List.length v0 : Int))) else false) == true) || decide (0 ≤ (IntKind.wrap .i64 (v1 + 2)) ∧ (IntKind.wrap .i64 (v1 + 2)) < (List.length v0 : Int))) = true, (((bif ((((v0)[Int.toNat (IntKind.wrap .i64 (v1 + 1))]?.getD 0).toNat : Int) == 120) then (decide ((IntKind.wrap .i64 (v1 + 3)) < (List.length v0 : Int))) else false) == true) = true → CX Tryz.prog 104 [.val (.int .u8 (((v0)[Int.toNat (IntKind.wrap .i64 (v1 + 2))]?.getD 0).toNat : Int))] (vi r6)), (!((bif (bif ((((v0)[Int.toNat (IntKind.wrap .i64 (v1 + 1))]?.getD 0).toNat : Int) == 120) then (decide ((IntKind.wrap .i64 (v1 + 3)) < (List.length v0 : Int))) else false) then (decide (r6 < 16)) else false) == true) || decide (0 ≤ (IntKind.wrap .i64 (v1 + 3)) ∧ (IntKind.wrap .i64 (v1 + 3)) < (List.length v0 : Int))) = true, (((bif (bif ((((v0)[Int.toNat (IntKind.wrap .i64 (v1 + 1))]?.getD 0).toNat : Int) == 120) then (decide ((IntKind.wrap .i64 (v1 + 3)) < (List.length v0 : Int))) else false) then (decide (r6 < 16)) else false) == true) = true → CX Tryz.prog 104 [.val (.int .u8 (((v0)[Int.toNat (IntKind.wrap .i64 (v1 + 3))]?.getD 0).toNat : Int))] (vi r7))] (AllP.cons hc16 (AllP.cons (fun _ => cx (ok_ref06_value (((v0)[Int.toNat (IntKind.wrap .i64 (v1 + 2))]?.getD 0).toNat : Int) _ hr6)) (AllP.cons hc17 (AllP.cons (fun _ => cx (ok_ref06_value (((v0)[Int.toNat (IntKind.wrap .i64 (v1 + 3))]?.getD 0).toNat : Int) _ hr7)) AllP.nil)))) ?_
                    refine To.eq (K' := [(0, .str v0), (1, vi v1), (7, .row 1007), (94, vb x8)]) (L' := [(1007, 5, [rc1 v7])]) (by cases hx8; rfl) (by cases hx8; rfl) ?_
                    refine To.thenN ?_
                    refine Wp.cond (b := x8) (by kernel_rfl) (fun hb => ?_) (fun hb => ?_)
                    · replace h := if_t hb h
                      refine Wp.seq ?_
                      obtain ⟨hc13, h⟩ := chk_of h
                      obtain ⟨r9, hr9, h⟩ := lett_of h
                      obtain ⟨hc14, h⟩ := chk_of h
                      obtain ⟨r10, hr10, h⟩ := lett_of h
                      obtain ⟨u11, h⟩ := chk_of h
                      obtain ⟨hc15, h⟩ := chk_of h
                      obtain ⟨x12, hx12, h⟩ := lett_of h
                      refine Wp.regionD hm hΓ [(5, vi r9), (11, vi r10), (14, rs2 [(UInt8.ofNat (Int.toNat (IntKind.wrap .u8 ((IntKind.wrap .i64 ((IntKind.wrap .i64 (r9 * 16)) + r10))))))]), (15, .row 110), (1015, rs2 (v7 ++ ([(UInt8.ofNat (Int.toNat (IntKind.wrap .u8 ((IntKind.wrap .i64 ((IntKind.wrap .i64 (r9 * 16)) + r10))))))] : List (UInt8))))] [0, 1, 7] [110] (K' := [(0, .str v0), (1, vi v1), (7, .row 110)]) (L' := [(110, 5, [rc1 (v7 ++ ([(UInt8.ofNat (Int.toNat (IntKind.wrap .u8 ((IntKind.wrap .i64 ((IntKind.wrap .i64 (r9 * 16)) + r10))))))] : List (UInt8)))])]) (ob := [(decide (0 ≤ (IntKind.wrap .i64 (v1 + 2)) ∧ (IntKind.wrap .i64 (v1 + 2)) < (List.length v0 : Int))) = true, (true = true → CX Tryz.prog 104 [.val (.int .u8 (((v0)[Int.toNat (IntKind.wrap .i64 (v1 + 2))]?.getD 0).toNat : Int))] (vi r9)), (decide (0 ≤ (IntKind.wrap .i64 (v1 + 3)) ∧ (IntKind.wrap .i64 (v1 + 3)) < (List.length v0 : Int))) = true, (true = true → CX Tryz.prog 104 [.val (.int .u8 (((v0)[Int.toNat (IntKind.wrap .i64 (v1 + 3))]?.getD 0).toNat : Int))] (vi r10)), (true = true → MkOb 1 [.val (.int .u8 (IntKind.wrap .u8 ((IntKind.wrap .i64 ((IntKind.wrap .i64 (r9 * 16)) + r10)))))] 1 (rs2 [(UInt8.ofNat (Int.toNat (IntKind.wrap .u8 ((IntKind.wrap .i64 ((IntKind.wrap .i64 (r9 * 16)) + r10))))))]) ∧ GoodR (rs2 [(UInt8.ofNat (Int.toNat (IntKind.wrap .u8 ((IntKind.wrap .i64 ((IntKind.wrap .i64 (r9 * 16)) + r10))))))])), (decide ((List.length v7 + List.length ([(UInt8.ofNat (Int.toNat (IntKind.wrap .u8 ((IntKind.wrap .i64 ((IntKind.wrap .i64 (r9 * 16)) + r10))))))] : List (UInt8))) * (1 + 1) ≤ limit)) = true, (AppOb 0 e8 v7 (List.flatMap e8 ([(UInt8.ofNat (Int.toNat (IntKind.wrap .u8 ((IntKind.wrap .i64 ((IntKind.wrap .i64 (r9 * 16)) + r10))))))] : List (UInt8))) (List.length ([(UInt8.ofNat (Int.toNat (IntKind.wrap .u8 ((IntKind.wrap .i64 ((IntKind.wrap .i64 (r9 * 16)) + r10))))))] : List (UInt8))) (rs2 (v7 ++ ([(UInt8.ofNat (Int.toNat (IntKind.wrap .u8 ((IntKind.wrap .i64 ((IntKind.wrap .i64 (r9 * 16)) + r10))))))] : List (UInt8)))) ∧ GoodR (rs2 (v7 ++ ([(UInt8.ofNat (Int.toNat (IntKind.wrap .u8 ((IntKind.wrap .i64 ((IntKind.wrap .i64 (r9 * 16)) + r10))))))] : List (UInt8)))))]) (by kernel_rfl) (AllP.cons hc13 (AllP.cons (fun _ => cx (ok_ref06_value (((v0)[Int.toNat (IntKind.wrap .i64 (v1 + 2))]?.getD 0).toNat : Int) _ hr9)) (AllP.cons hc14 (AllP.cons (fun _ => cx (ok_ref06_value (((v0)[Int.toNat (IntKind.wrap .i64 (v1 + 3))]?.getD 0).toNat : Int) _ hr10)) (AllP.cons (fun _ => mkOb (All8.cells (ns := [(IntKind.wrap .u8 ((IntKind.wrap .i64 ((IntKind.wrap .i64 (r9 * 16)) + r10))))]) (.cons (u8_of u11) .nil)) rfl rfl (good8 _)) (AllP.cons hc15 (AllP.cons (appOb rfl rfl (good8 _)) AllP.nil))))))) ?_
                      refine To.eq (K' := [(0, .str v0), (1, vi v1), (7, .row 110)]) (L' := [(110, 5, [rc1 x12])]) (by cases hx12; rfl) (by cases hx12; rfl) ?_
                      refine To.thenN ?_
                      refine rg [0, 1, 7] [110] [(0, .str v0), (1, vi (IntKind.wrap .i64 (v1 + 4))), (7, .row 110)] [(110, 5, [rc1 x12])] ?_
                      refine To.blockN ?_
                      refine kt [0, 1, 7] [110] [(0, .str v0), (1, vi (IntKind.wrap .i64 (v1 + 4))), (7, .row 110)] [(110, 5, [rc1 x12])] ?_
                      refine To.pre (St.rename 110 1007 (by decide) (K' := [(0, .str v0), (1, vi (IntKind.wrap .i64 (v1 + 4))), (7, .row 1007)]) (L' := [(1007, 5, [rc1 x12])]) (by kernel_rfl) (by kernel_rfl) (by kernel_rfl)) ?_
                      refine kt [0, 1, 7] [1007] [(0, .str v0), (1, vi (IntKind.wrap .i64 (v1 + 4))), (7, .row 1007)] [(1007, 5, [rc1 x12])] ?_
                      refine To.again ?_
                      exact ih (IntKind.wrap .i64 (v1 + 4)) x12 _ h hQ
                    · replace h := if_f hb h
                      refine Wp.seq ?_
                      refine rg [4, 5, 6] [] [(4, .str []), (5, vi 0), (6, vb false)] [] ?_
                      refine To.thenN (Wp.ret (To.blockR (To.thenR ?_)))
                      refine kt [4, 5, 6] [] [(4, .str []), (5, vi 0), (6, vb false)] [] ?_
                      cases h
                      exact hQ
    · replace h := if_f hb h
      refine Wp.exit (To.thenX (To.thenX ?_))
      refine kt [] [] [] [] ?_
      cases h
      exact hQ
def ref06_double (n : Nat) (a0 : List UInt8) (a1 : Int) : Option ((List UInt8) × Int × Bool) :=
  (ref06_double_l1 n a0 n a1 ([] : List (UInt8))).bind fun o1 =>
  (Sum.elim (fun o1 => some ([], 0, false)) (fun o1 => some (o1.1, o1.2.1, o1.2.2))) o1
theorem ok_ref06_double (n : Nat) (a0 : List UInt8) (a1 : Int) (r : (List UInt8) × Int × Bool) (h : ref06_double n a0 a1 = some r) : CallsX Tryz.prog 72 [.str a0, vi a1] (.tup [.str r.1, vi r.2.1, vb r.2.2]) := by
  unfold ref06_double at h
  refine callsX_of (fn := Tryz.f72) (by kernel_rfl) rfl (by kernel_rfl) (Nat.le_of_ble_eq_true (by kernel_rfl)) fun F0 w0 _ => ?_
  refine kw [0, 1] [] [(0, .str a0), (1, vi a1)] [] ?_
  refine Wp.seq ?_
  refine rg [0, 1] [] [(0, .str a0), (1, vi a1)] [] ?_
  refine To.thenN (Wp.seq ?_)
  refine rr [] [(0, rs2 [])] [] [0, 1, 7] [10] [(0, .str a0), (1, vi a1), (7, .row 10)] [(10, 5, [rc1 []])] [(MkOb 1 [] 0 (rs2 []) ∧ GoodR (rs2 []))] (AllP.cons (mkOb (All8.cells (ns := []) .nil) rfl rfl (good8 _)) AllP.nil) ?_
  refine To.thenN (Wp.seq (Wp.block ?_))
  obtain ⟨o1, ho1, h⟩ := bind_of h
  refine kw [0, 1, 7] [10] [(0, .str a0), (1, vi a1), (7, .row 10)] [(10, 5, [rc1 []])] ?_
  refine Wp.pre (St.rename 10 1007 (by decide) (K' := [(0, .str a0), (1, vi a1), (7, .row 1007)]) (L' := [(1007, 5, [rc1 []])]) (by kernel_rfl) (by kernel_rfl) (by kernel_rfl)) ?_
  refine kw [0, 1, 7] [1007] [(0, .str a0), (1, vi a1), (7, .row 1007)] [(1007, 5, [rc1 []])] ?_
  refine Wp.loopL ?_
  refine ok_ref06_double_l1 n a0 n a1 ([] : List (UInt8)) o1 ho1 ?_
  rcases o1 with o1 | o1
  · replace h := sum_l h
    refine To.blockX (To.thenN (Wp.seq ?_))
    refine rg [4, 5, 6] [] [(4, .str []), (5, vi 0), (6, vb false)] [] ?_
    refine To.thenN (Wp.ret ?_)
    refine kt [4, 5, 6] [] [(4, .str []), (5, vi 0), (6, vb false)] [] ?_
    cases h
    exact To.done hΓ (by kernel_rfl)
  · replace h := sum_r h
    refine To.blockR (To.thenR ?_)
    refine kt [4, 5, 6] [] [(4, .str o1.1), (5, vi o1.2.1), (6, vb o1.2.2)] [] ?_
    cases h
    exact To.done hΓ (by kernel_rfl)
def ref06_single_j2 (n : Nat) (v0 : List UInt8) (v1 : Int) (v7 : List (UInt8)) (v21 : Bool) : Option (Sum (Int) ((List UInt8) × Int × Bool)) :=
  if v21 = true then (if ((!((decide ((IntKind.wrap .i64 (v1 + 1)) ≥ (List.length v0 : Int))) == false) || decide (0 ≤ (IntKind.wrap .i64 (v1 + 1)) ∧ (IntKind.wrap .i64 (v1 + 1)) < (List.length v0 : Int)))) = true then (lett ((bif (decide ((IntKind.wrap .i64 (v1 + 1)) ≥ (List.length v0 : Int))) then true else ((((v0)[Int.toNat (IntKind.wrap .i64 (v1 + 1))]?.getD 0).toNat : Int) != 39)) : Bool) fun x1 =>
  if x1 = true then (some (.inr (v7, (IntKind.wrap .i64 (v1 + 1)), true)))
  else (some (.inl (IntKind.wrap .i64 (v1 + 1))))) else none)
  else (some (.inl v1))
theorem ok_ref06_single_j2 (n : Nat) (v0 : List UInt8) (v1 : Int) (v7 : List (UInt8)) (v21 : Bool) (o : Sum (Int) ((List UInt8) × Int × Bool)) (h : ref06_single_j2 n v0 v1 v7 v21 = some o) {F0 : Fz} {w0 : Pt Tryz.prog} {Q : Exit → Act → World → Prop} (hQ : (Sum.elim (fun s => To 48 F0 w0 [(0, .str v0), (1, vi s), (7, .row 1007)] [(1007, 5, [rc1 v7])] .normal Q) (fun s => To 48 F0 w0 [(4, .str s.1), (5, vi s.2.1), (6, vb s.2.2)] [] .ret Q)) o) : Wp Tryz.prog 48 F0 w0 [(0, .str v0), (1, vi v1), (7, .row 1007), (21, vb v21)] [(1007, 5, [rc1 v7])] (cB (cA (cB (cI (cB (cI (cI (cA (cB (cB (cF Tryz.f73))))))))))) Q := by
  unfold ref06_single_j2 at h
  refine Wp.cond (b := v21) (by kernel_rfl) (fun hb => ?_) (fun hb => ?_)
  · replace h := if_t hb h
    refine Wp.seq (Wp.seq ?_)
    obtain ⟨hc2, h⟩ := chk_of h
    obtain ⟨x1, hx1, h⟩ := lett_of h
    refine rr [] [] [] [0, 1, 7, 33] [1007] [(0, .str v0), (1, vi v1), (7, .row 1007), (33, vb (bif (decide ((IntKind.wrap .i64 (v1 + 1)) ≥ (List.length v0 : Int))) then true else ((((v0)[Int.toNat (IntKind.wrap .i64 (v1 + 1))]?.getD 0).toNat : Int) != 39)))] [(1007, 5, [rc1 v7])] [(!((decide ((IntKind.wrap .i64 (v1 + 1)) ≥ (List.length v0 : Int))) == false) || decide (0 ≤ (IntKind.wrap .i64 (v1 + 1)) ∧ (IntKind.wrap .i64 (v1 + 1)) < (List.length v0 : Int))) = true] (AllP.cons hc2 AllP.nil) ?_
    refine To.eq (K' := [(0, .str v0), (1, vi v1), (7, .row 1007), (33, vb x1)]) (L' := [(1007, 5, [rc1 v7])]) (by cases hx1; rfl) (by cases hx1; rfl) ?_
    refine To.thenN ?_
    refine Wp.cond (b := x1) (by kernel_rfl) (fun hb => ?_) (fun hb => ?_)
    · replace h := if_t hb h
      refine Wp.seq ?_
      refine rr [] [(1, .str v7)] [] [4, 5, 6] [] [(4, .str v7), (5, vi (IntKind.wrap .i64 (v1 + 1))), (6, vb true)] [] [(true = true → StrOb (List.flatMap e8 v7) (.str v7))] (AllP.cons (fun _ => strOb (flat8 _)) AllP.nil) ?_
      refine To.thenN (Wp.ret (To.thenR ?_))
      refine kt [4, 5, 6] [] [(4, .str v7), (5, vi (IntKind.wrap .i64 (v1 + 1))), (6, vb true)] [] ?_
      cases h
      exact hQ
    · replace h := if_f hb h
      refine Wp.skip (To.thenN ?_)
      refine rg [0, 1, 7] [1007] [(0, .str v0), (1, vi (IntKind.wrap .i64 (v1 + 1))), (7, .row 1007)] [(1007, 5, [rc1 v7])] ?_
      refine kt [0, 1, 7] [1007] [(0, .str v0), (1, vi (IntKind.wrap .i64 (v1 + 1))), (7, .row 1007)] [(1007, 5, [rc1 v7])] ?_
      cases h
      exact hQ
  · replace h := if_f hb h
    refine Wp.skip ?_
    refine kt [0, 1, 7] [1007] [(0, .str v0), (1, vi v1), (7, .row 1007)] [(1007, 5, [rc1 v7])] ?_
    cases h
    exact hQ
def ref06_single_l1 (n : Nat) (v0 : List UInt8) : Nat → Int → (List (UInt8)) → Option (Sum (Unit) ((List UInt8) × Int × Bool))
  | 0, _, _ => none
  | k + 1, v1, v7 => if (decide (v1 < (List.length v0 : Int))) = true then (if (decide (0 ≤ v1 ∧ v1 < (List.length v0 : Int))) = true then (if (!(ref06_Good (((v0)[Int.toNat v1]?.getD 0).toNat : Int))) = true then (some (.inr ([], 0, false)))
  else (if (decide (0 ≤ v1 ∧ v1 < (List.length v0 : Int))) = true then ((ref06_single_j2 n v0 v1 v7 ((((v0)[Int.toNat v1]?.getD 0).toNat : Int) == 39)).bind fun o1 =>
  (Sum.elim (fun o1 => if (decide (0 ≤ o1 ∧ o1 < (List.length v0 : Int))) = true then (if (decide ((List.length v7 + List.length ([((v0)[Int.toNat o1]?.getD 0)] : List (UInt8))) * (1 + 1) ≤ limit)) = true then (ref06_single_l1 n v0 k (IntKind.wrap .i64 (o1 + 1)) (v7 ++ ([((v0)[Int.toNat o1]?.getD 0)] : List (UInt8)))) else none) else none) (fun o1 => some (.inr (o1.1, o1.2.1, o1.2.2)))) o1) else none)) else none)
  else (some (.inl ()))
theorem ok_ref06_single_l1 (n : Nat) (v0 : List UInt8) {F0 : Fz} {w0 : Pt Tryz.prog} {Q : Exit → Act → World → Prop} (k : Nat) : ∀ (v1 : Int) (v7 : List (UInt8)) (o : Sum (Unit) ((List UInt8) × Int × Bool)), ref06_single_l1 n v0 k v1 v7 = some o → (Sum.elim (fun s => To 48 F0 w0 [] [] (.exit 0) Q) (fun s => To 48 F0 w0 [(4, .str s.1), (5, vi s.2.1), (6, vb s.2.2)] [] .ret Q)) o → WL Tryz.prog 48 F0 w0 [(0, .str v0), (1, vi v1), (7, .row 1007)] [(1007, 5, [rc1 v7])] (cI (cI (cA (cB (cB (cF Tryz.f73)))))) Q := by
  induction k with
  | zero => intro v1 v7 o h; cases h
  | succ k ih =>
    intro v1 v7 o h hQ
    rw [ref06_single_l1] at h
    refine WL.round (Wp.seq (Wp.seq ?_))
    refine rg [0, 1, 7, 12] [1007] [(0, .str v0), (1, vi v1), (7, .row 1007), (12, vb (decide (v1 < (List.length v0 : Int))))] [(1007, 5, [rc1 v7])] ?_
    refine To.thenN ?_
    refine Wp.cond (b := (decide (v1 < (List.length v0 : Int)))) (by kernel_rfl) (fun hb => ?_) (fun hb => ?_)
    · replace h := if_t hb h
      refine Wp.skip (To.thenN (Wp.block (Wp.seq (Wp.seq ?_))))
      obtain ⟨hc5, h⟩ := chk_of h
      refine rr [] [(3, vb (ref06_Good (((v0)[Int.toNat v1]?.getD 0).toNat : Int)))] [] [0, 1, 7, 17] [1007] [(0, .str v0), (1, vi v1), (7, .row 1007), (17, vb (!(ref06_Good (((v0)[Int.toNat v1]?.getD 0).toNat : Int))))] [(1007, 5, [rc1 v7])] [(decide (0 ≤ v1 ∧ v1 < (List.length v0 : Int))) = true, (true = true → CX Tryz.prog 75 [.val (.int .u8 (((v0)[Int.toNat v1]?.getD 0).toNat : Int))] (vb (ref06_Good (((v0)[Int.toNat v1]?.getD 0).toNat : Int))))] (AllP.cons hc5 (AllP.cons (fun _ => cx (ok_ref06_Good (((v0)[Int.toNat v1]?.getD 0).toNat : Int) _ rfl)) AllP.nil)) ?_
      refine To.thenN ?_
      refine Wp.cond (b := (!(ref06_Good (((v0)[Int.toNat v1]?.getD 0).toNat : Int)))) (by kernel_rfl) (fun hb => ?_) (fun hb => ?_)
      · replace h := if_t hb h
        refine Wp.seq ?_
        refine rg [4, 5, 6] [] [(4, .str []), (5, vi 0), (6, vb false)] [] ?_
        refine To.thenN (Wp.ret (To.thenR (To.blockR (To.thenR ?_))))
        refine kt [4, 5, 6] [] [(4, .str []), (5, vi 0), (6, vb false)] [] ?_
        cases h
        exact hQ
      · replace h := if_f hb h
        refine Wp.skip (To.thenN (Wp.seq (Wp.seq ?_)))
        obtain ⟨hc4, h⟩ := chk_of h
        refine rr [] [] [] [0, 1, 7, 21] [1007] [(0, .str v0), (1, vi v1), (7, .row 1007), (21, vb ((((v0)[Int.toNat v1]?.getD 0).toNat : Int) == 39))] [(1007, 5, [rc1 v7])] [(decide (0 ≤ v1 ∧ v1 < (List.length v0 : Int))) = true] (AllP.cons hc4 AllP.nil) ?_
        refine To.thenN ?_
        obtain ⟨o1, ho1, h⟩ := bind_of h
        refine kw [0, 1, 7, 21] [1007] [(0, .str v0), (1, vi v1), (7, .row 1007), (21, vb ((((v0)[Int.toNat v1]?.getD 0).toNat : Int) == 39))] [(1007, 5, [rc1 v7])] ?_
        refine ok_ref06_single_j2 n v0 v1 v7 ((((v0)[Int.toNat v1]?.getD 0).toNat : Int) == 39) o1 ho1 ?_
        rcases o1 with o1 | o1
        · replace h := sum_l h
          refine To.thenN (Wp.seq ?_)
          obtain ⟨hc2, h⟩ := chk_of h
          obtain ⟨hc3, h⟩ := chk_of h
          refine rr [] [(4, rs2 ([((v0)[Int.toNat o1]?.getD 0)])), (5, rs2 (v7 ++ ([((v0)[Int.toNat o1]?.getD 0)] : List (UInt8))))] [] [0, 1, 7] [45] [(0, .str v0), (1, vi o1), (7, .row 45)] [(45, 5, [rc1 (v7 ++ ([((v0)[Int.toNat o1]?.getD 0)] : List (UInt8)))])] [(decide (0 ≤ o1 ∧ o1 < (List.length v0 : Int))) = true, (MkOb 1 [.val (.int .u8 (((v0)[Int.toNat o1]?.getD 0).toNat : Int))] 1 (rs2 ([((v0)[Int.toNat o1]?.getD 0)])) ∧ GoodR (rs2 ([((v0)[Int.toNat o1]?.getD 0)]))), (decide ((List.length v7 + List.length ([((v0)[Int.toNat o1]?.getD 0)] : List (UInt8))) * (1 + 1) ≤ limit)) = true, (AppOb 0 e8 v7 (List.flatMap e8 ([((v0)[Int.toNat o1]?.getD 0)] : List (UInt8))) (List.length ([((v0)[Int.toNat o1]?.getD 0)] : List (UInt8))) (rs2 (v7 ++ ([((v0)[Int.toNat o1]?.getD 0)] : List (UInt8)))) ∧ GoodR (rs2 (v7 ++ ([((v0)[Int.toNat o1]?.getD 0)] : List (UInt8)))))] (AllP.cons hc2 (AllP.cons (mkOb (All8.cells (ns := [(((v0)[Int.toNat o1]?.getD 0).toNat : Int)]) (.cons rfl .nil)) rfl rfl (good8 _)) (AllP.cons hc3 (AllP.cons (appOb rfl rfl (good8 _)) AllP.nil)))) ?_
          refine To.thenN ?_
          refine rg [0, 1, 7] [45] [(0, .str v0), (1, vi (IntKind.wrap .i64 (o1 + 1))), (7, .row 45)] [(45, 5, [rc1 (v7 ++ ([((v0)[Int.toNat o1]?.getD 0)] : List (UInt8)))])] ?_
          refine To.blockN ?_
          refine kt [0, 1, 7] [45] [(0, .str v0), (1, vi (IntKind.wrap .i64 (o1 + 1))), (7, .row 45)] [(45, 5, [rc1 (v7 ++ ([((v0)[Int.toNat o1]?.getD 0)] : List (UInt8)))])] ?_
          refine To.pre (St.rename 45 1007 (by decide) (K' := [(0, .str v0), (1, vi (IntKind.wrap .i64 (o1 + 1))), (7, .row 1007)]) (L' := [(1007, 5, [rc1 (v7 ++ ([((v0)[Int.toNat o1]?.getD 0)] : List (UInt8)))])]) (by kernel_rfl) (by kernel_rfl) (by kernel_rfl)) ?_
          refine kt [0, 1, 7] [1007] [(0, .str v0), (1, vi (IntKind.wrap .i64 (o1 + 1))), (7, .row 1007)] [(1007, 5, [rc1 (v7 ++ ([((v0)[Int.toNat o1]?.getD 0)] : List (UInt8)))])] ?_
          refine To.again ?_
          exact ih (IntKind.wrap .i64 (o1 + 1)) (v7 ++ ([((v0)[Int.toNat o1]?.getD 0)] : List (UInt8))) _ h hQ
        · replace h := sum_r h
          refine To.thenR (To.blockR (To.thenR ?_))
          refine kt [4, 5, 6] [] [(4, .str o1.1), (5, vi o1.2.1), (6, vb o1.2.2)] [] ?_
          cases h
          exact hQ
    · replace h := if_f hb h
      refine Wp.exit (To.thenX (To.thenX ?_))
      refine kt [] [] [] [] ?_
      cases h
      exact hQ
def ref06_single (n : Nat) (a0 : List UInt8) (a1 : Int) : Option ((List UInt8) × Int × Bool) :=
  (ref06_single_l1 n a0 n a1 ([] : List (UInt8))).bind fun o1 =>
  (Sum.elim (fun o1 => some ([], 0, false)) (fun o1 => some (o1.1, o1.2.1, o1.2.2))) o1
theorem ok_ref06_single (n : Nat) (a0 : List UInt8) (a1 : Int) (r : (List UInt8) × Int × Bool) (h : ref06_single n a0 a1 = some r) : CallsX Tryz.prog 73 [.str a0, vi a1] (.tup [.str r.1, vi r.2.1, vb r.2.2]) := by
  unfold ref06_single at h
  refine callsX_of (fn := Tryz.f73) (by kernel_rfl) rfl (by kernel_rfl) (Nat.le_of_ble_eq_true (by kernel_rfl)) fun F0 w0 _ => ?_
  refine kw [0, 1] [] [(0, .str a0), (1, vi a1)] [] ?_
  refine Wp.seq ?_
  refine rg [0, 1] [] [(0, .str a0), (1, vi a1)] [] ?_
  refine To.thenN (Wp.seq ?_)
  refine rr [] [(0, rs2 [])] [] [0, 1, 7] [8] [(0, .str a0), (1, vi a1), (7, .row 8)] [(8, 5, [rc1 []])] [(MkOb 1 [] 0 (rs2 []) ∧ GoodR (rs2 []))] (AllP.cons (mkOb (All8.cells (ns := []) .nil) rfl rfl (good8 _)) AllP.nil) ?_
  refine To.thenN (Wp.seq (Wp.block ?_))
  obtain ⟨o1, ho1, h⟩ := bind_of h
  refine kw [0, 1, 7] [8] [(0, .str a0), (1, vi a1), (7, .row 8)] [(8, 5, [rc1 []])] ?_
  refine Wp.pre (St.rename 8 1007 (by decide) (K' := [(0, .str a0), (1, vi a1), (7, .row 1007)]) (L' := [(1007, 5, [rc1 []])]) (by kernel_rfl) (by kernel_rfl) (by kernel_rfl)) ?_
  refine kw [0, 1, 7] [1007] [(0, .str a0), (1, vi a1), (7, .row 1007)] [(1007, 5, [rc1 []])] ?_
  refine Wp.loopL ?_
  refine ok_ref06_single_l1 n a0 n a1 ([] : List (UInt8)) o1 ho1 ?_
  rcases o1 with o1 | o1
  · replace h := sum_l h
    refine To.blockX (To.thenN (Wp.seq ?_))
    refine rg [4, 5, 6] [] [(4, .str []), (5, vi 0), (6, vb false)] [] ?_
    refine To.thenN (Wp.ret ?_)
    refine kt [4, 5, 6] [] [(4, .str []), (5, vi 0), (6, vb false)] [] ?_
    cases h
    exact To.done hΓ (by kernel_rfl)
  · replace h := sum_r h
    refine To.blockR (To.thenR ?_)
    refine kt [4, 5, 6] [] [(4, .str o1.1), (5, vi o1.2.1), (6, vb o1.2.2)] [] ?_
    cases h
    exact To.done hΓ (by kernel_rfl)
def ref06_Scan_j1 (n : Nat) (v0 : List UInt8) (v1 : Int) (v33 : Bool) : Option ((List UInt8) × Int × Bool) :=
  if v33 = true then ((ref06_double n v0 (IntKind.wrap .i64 (v1 + 1))).bind fun r2 =>
  some (r2.1, r2.2.1, r2.2.2))
  else ((ref06_single n v0 (IntKind.wrap .i64 (v1 + 1))).bind fun r3 =>
  some (r3.1, r3.2.1, r3.2.2))
theorem ok_ref06_Scan_j1 (n : Nat) (v0 : List UInt8) (v1 : Int) (v33 : Bool) (o : (List UInt8) × Int × Bool) (h : ref06_Scan_j1 n v0 v1 v33 = some o) {F0 : Fz} {w0 : Pt Tryz.prog} {Q : Exit → Act → World → Prop} (hQ : To 54 F0 w0 [(7, .str o.1), (8, vi o.2.1), (9, vb o.2.2)] [] .normal Q) : Wp Tryz.prog 54 F0 w0 [(0, .str v0), (1, vi v1), (33, vb v33)] [] (cB (cA (cB (cB (cB (cB (cB (cF Tryz.f35)))))))) Q := by
  unfold ref06_Scan_j1 at h
  refine Wp.cond (b := v33) (by kernel_rfl) (fun hb => ?_) (fun hb => ?_)
  · replace h := if_t hb h
    obtain ⟨r2, hr2, h⟩ := bind_of h
    refine rr [] [(3, .tup [.str r2.1, vi r2.2.1, vb r2.2.2])] [] [7, 8, 9] [] [(7, .str r2.1), (8, vi r2.2.1), (9, vb r2.2.2)] [] [(true = true → CX Tryz.prog 72 [.str v0, vi (IntKind.wrap .i64 (v1 + 1))] (.tup [.str r2.1, vi r2.2.1, vb r2.2.2]))] (AllP.cons (fun _ => cx (ok_ref06_double n v0 (IntKind.wrap .i64 (v1 + 1)) _ hr2)) AllP.nil) ?_
    refine kt [7, 8, 9] [] [(7, .str r2.1), (8, vi r2.2.1), (9, vb r2.2.2)] [] ?_
    cases h
    exact hQ
  · replace h := if_f hb h
    obtain ⟨r3, hr3, h⟩ := bind_of h
    refine rr [] [(3, .tup [.str r3.1, vi r3.2.1, vb r3.2.2])] [] [7, 8, 9] [] [(7, .str r3.1), (8, vi r3.2.1), (9, vb r3.2.2)] [] [(true = true → CX Tryz.prog 73 [.str v0, vi (IntKind.wrap .i64 (v1 + 1))] (.tup [.str r3.1, vi r3.2.1, vb r3.2.2]))] (AllP.cons (fun _ => cx (ok_ref06_single n v0 (IntKind.wrap .i64 (v1 + 1)) _ hr3)) AllP.nil) ?_
    refine kt [7, 8, 9] [] [(7, .str r3.1), (8, vi r3.2.1), (9, vb r3.2.2)] [] ?_
    cases h
    exact hQ
def ref06_Scan (n : Nat) (a0 : List UInt8) (a1 : Int) : Option ((List UInt8) × Int × Int) :=
  if ((!((bif (decide (a1 < 0)) then true else (decide (a1 ≥ (List.length a0 : Int)))) == false) || decide (0 ≤ a1 ∧ a1 < (List.length a0 : Int)))) = true then (if ((!((((((a0)[Int.toNat a1]?.getD 0).toNat : Int) != 34) == true) && ((bif (decide (a1 < 0)) then true else (decide (a1 ≥ (List.length a0 : Int)))) == false)) || decide (0 ≤ a1 ∧ a1 < (List.length a0 : Int)))) = true then (lett ((bif (bif (decide (a1 < 0)) then true else (decide (a1 ≥ (List.length a0 : Int)))) then true else (bif ((((a0)[Int.toNat a1]?.getD 0).toNat : Int) != 34) then ((((a0)[Int.toNat a1]?.getD 0).toNat : Int) != 39) else false)) : Bool) fun x1 =>
  if x1 = true then (some ([], 0, 2))
  else (if (decide (0 ≤ a1 ∧ a1 < (List.length a0 : Int))) = true then ((ref06_Scan_j1 n a0 a1 ((((a0)[Int.toNat a1]?.getD 0).toNat : Int) == 34)).bind fun o2 =>
  if (!o2.2.2) = true then (some ([], 0, 3))
  else (some (o2.1, o2.2.1, 0))) else none)) else none) else none
theorem ok_ref06_Scan (n : Nat) (a0 : List UInt8) (a1 : Int) (r : (List UInt8) × Int × Int) (h : ref06_Scan n a0 a1 = some r) : CallsX Tryz.prog 35 [.str a0, vi a1] (.tup [.str r.1, vi r.2.1, vi r.2.2]) := by
  unfold ref06_Scan at h
  refine callsX_of (fn := Tryz.f35) (by kernel_rfl) rfl (by kernel_rfl) (Nat.le_of_ble_eq_true (by kernel_rfl)) fun F0 w0 _ => ?_
  refine kw [0, 1] [] [(0, .str a0), (1, vi a1)] [] ?_
  refine Wp.seq ?_
  refine rg [0, 1] [] [(0, .str a0), (1, vi a1)] [] ?_
  refine To.thenN (Wp.seq (Wp.seq ?_))
  obtain ⟨hc4, h⟩ := chk_of h
  obtain ⟨hc5, h⟩ := chk_of h
  obtain ⟨x1, hx1, h⟩ := lett_of h
  refine rr [] [] [] [0, 1, 29] [] [(0, .str a0), (1, vi a1), (29, vb (bif (bif (decide (a1 < 0)) then true else (decide (a1 ≥ (List.length a0 : Int)))) then true else (bif ((((a0)[Int.toNat a1]?.getD 0).toNat : Int) != 34) then ((((a0)[Int.toNat a1]?.getD 0).toNat : Int) != 39) else false)))] [] [(!((bif (decide (a1 < 0)) then true else (decide (a1 ≥ (List.length a0 : Int)))) == false) || decide (0 ≤ a1 ∧ a1 < (List.length a0 : Int))) = true, (!((((((a0)[Int.toNat a1]?.getD 0).toNat : Int) != 34) == true) && ((bif (decide (a1 < 0)) then true else (decide (a1 ≥ (List.length a0 : Int)))) == false)) || decide (0 ≤ a1 ∧ a1 < (List.length a0 : Int))) = true] (AllP.cons hc4 (AllP.cons hc5 AllP.nil)) ?_
  refine To.eq (K' := [(0, .str a0), (1, vi a1), (29, vb x1)]) (L' := []) (by cases hx1; rfl) (by cases hx1; rfl) ?_
  refine To.thenN ?_
  refine Wp.cond (b := x1) (by kernel_rfl) (fun hb => ?_) (fun hb => ?_)
  · replace h := if_t hb h
    refine Wp.seq ?_
    refine rg [4, 5, 6] [] [(4, .str []), (5, vi 0), (6, vi 2)] [] ?_
    refine To.thenN (Wp.ret (To.thenR ?_))
    refine kt [4, 5, 6] [] [(4, .str []), (5, vi 0), (6, vi 2)] [] ?_
    cases h
    exact To.done hΓ (by kernel_rfl)
  · replace h := if_f hb h
    refine Wp.skip (To.thenN (Wp.seq ?_))
    refine rg [0, 1] [] [(0, .str a0), (1, vi a1)] [] ?_
    refine To.thenN (Wp.seq ?_)
    refine rg [0, 1] [] [(0, .str a0), (1, vi a1)] [] ?_
    refine To.thenN (Wp.seq ?_)
    refine rg [0, 1] [] [(0, .str a0), (1, vi a1)] [] ?_
    refine To.thenN (Wp.seq (Wp.seq ?_))
    obtain ⟨hc3, h⟩ := chk_of h
    refine rr [] [] [] [0, 1, 33] [] [(0, .str a0), (1, vi a1), (33, vb ((((a0)[Int.toNat a1]?.getD 0).toNat : Int) == 34))] [] [(decide (0 ≤ a1 ∧ a1 < (List.length a0 : Int))) = true] (AllP.cons hc3 AllP.nil) ?_
    refine To.thenN ?_
    obtain ⟨o2, ho2, h⟩ := bind_of h
    refine kw [0, 1, 33] [] [(0, .str a0), (1, vi a1), (33, vb ((((a0)[Int.toNat a1]?.getD 0).toNat : Int) == 34))] [] ?_
    refine ok_ref06_Scan_j1 n a0 a1 ((((a0)[Int.toNat a1]?.getD 0).toNat : Int) == 34) o2 ho2 ?_
    refine To.thenN (Wp.seq (Wp.seq ?_))
    refine rg [7, 8, 51] [] [(7, .str o2.1), (8, vi o2.2.1), (51, vb (!o2.2.2))] [] ?_
    refine To.thenN ?_
    refine Wp.cond (b := (!o2.2.2)) (by kernel_rfl) (fun hb => ?_) (fun hb => ?_)
    · replace h := if_t hb h
      refine Wp.seq ?_
      refine rg [4, 5, 6] [] [(4, .str []), (5, vi 0), (6, vi 3)] [] ?_
      refine To.thenN (Wp.ret (To.thenR ?_))
      refine kt [4, 5, 6] [] [(4, .str []), (5, vi 0), (6, vi 3)] [] ?_
      cases h
      exact To.done hΓ (by kernel_rfl)
    · replace h := if_f hb h
      refine Wp.skip (To.thenN (Wp.seq ?_))
      refine rg [4, 5, 6] [] [(4, .str o2.1), (5, vi o2.2.1), (6, vi 0)] [] ?_
      refine To.thenN (Wp.ret ?_)
      refine kt [4, 5, 6] [] [(4, .str o2.1), (5, vi o2.2.1), (6, vi 0)] [] ?_
      cases h
      exact To.done hΓ (by kernel_rfl)
end Go.Proofs.YtefojkdckfidcaaGreatDoor.M
