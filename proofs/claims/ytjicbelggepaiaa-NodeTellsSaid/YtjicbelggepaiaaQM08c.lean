/-
  Part of the proof of NodeTells: M08c.
-/
import Derived.Test.YtjicbelggepaiaaQM08b
namespace Go.Proofs.Ytjicbelggepaiaa.M
open Go.RowKit Go.Proofs.Ytjicbelggepaiaa.RX
set_option maxRecDepth 100000
theorem ok_ref08_With (n : Nat) (a0 : S_api_Node) (a1 : List UInt8) (a2 : S_api_Node) (r : S_api_Node) (h : ref08_With n a0 a1 a2 = some r) : CallsX Try.prog 24 [.agg [.val (.int .i64 a0.f_Kind), .str a0.f_Text, .recs (α := List UInt8) [] E_string a0.f_Keys, .tree (α := S_api_Node) (S_api_Node.mk 0 [] [] []) pre_S_api_Node kids_S_api_Node a0.f_Kids], .str a1, .agg [.val (.int .i64 a2.f_Kind), .str a2.f_Text, .recs (α := List UInt8) [] E_string a2.f_Keys, .tree (α := S_api_Node) (S_api_Node.mk 0 [] [] []) pre_S_api_Node kids_S_api_Node a2.f_Kids]] (.agg [.val (.int .i64 r.f_Kind), .str r.f_Text, .recs (α := List UInt8) [] E_string r.f_Keys, .tree (α := S_api_Node) (S_api_Node.mk 0 [] [] []) pre_S_api_Node kids_S_api_Node r.f_Kids]) := by
  unfold ref08_With at h
  refine callsX_of (fn := Try.f24) (by kernel_rfl) rfl (by kernel_rfl) (Nat.le_of_ble_eq_true (by kernel_rfl)) fun F0 w0 _ => ?_
  refine Wp.keep (kk := [0, 1, 2]) (kl := []) (K' := [(0, .agg [.val (.int .i64 a0.f_Kind), .str a0.f_Text, .recs (α := List UInt8) [] E_string a0.f_Keys, .tree (α := S_api_Node) (S_api_Node.mk 0 [] [] []) pre_S_api_Node kids_S_api_Node a0.f_Kids]), (1, .str a1), (2, .agg [.val (.int .i64 a2.f_Kind), .str a2.f_Text, .recs (α := List UInt8) [] E_string a2.f_Keys, .tree (α := S_api_Node) (S_api_Node.mk 0 [] [] []) pre_S_api_Node kids_S_api_Node a2.f_Kids])]) (L' := []) (by kernel_rfl) (by kernel_rfl) ?_
  refine Wp.seq ?_
  refine Wp.region hΓ [] [] [] [1, 3, 5, 6] [3, 5, 6] (K' := [(1, .str a1), (3, .own 3 0), (5, .own 5 0), (6, .own 6 0)]) (L' := [(3, 25, [.val (.int .i64 a0.f_Kind), .str a0.f_Text, .recs (α := List UInt8) [] E_string a0.f_Keys, .tree (α := S_api_Node) (S_api_Node.mk 0 [] [] []) pre_S_api_Node kids_S_api_Node a0.f_Kids]), (5, 25, [.val (.int .i64 a2.f_Kind), .str a2.f_Text, .recs (α := List UInt8) [] E_string a2.f_Keys, .tree (α := S_api_Node) (S_api_Node.mk 0 [] [] []) pre_S_api_Node kids_S_api_Node a2.f_Kids]), (6, 25, [.val (.int .i64 0), .str [], .val (.slice none 0 0), .val (.slice none 0 0)])]) (ob := []) (by kernel_rfl) AllP.nil ?_
  refine To.thenN ?_
  refine Wp.seq ?_
  refine Wp.seq ?_
  refine Wp.region hΓ [] [] [] [1, 3, 5, 6, 17] [3, 5, 6] (K' := [(1, .str a1), (3, .own 3 0), (5, .own 5 0), (6, .own 6 0), (17, .val (.bool (bif (a0.f_Kind != 0) then (a0.f_Kind != 3) else false)))]) (L' := [(3, 25, [.val (.int .i64 a0.f_Kind), .str a0.f_Text, .recs (α := List UInt8) [] E_string a0.f_Keys, .tree (α := S_api_Node) (S_api_Node.mk 0 [] [] []) pre_S_api_Node kids_S_api_Node a0.f_Kids]), (5, 25, [.val (.int .i64 a2.f_Kind), .str a2.f_Text, .recs (α := List UInt8) [] E_string a2.f_Keys, .tree (α := S_api_Node) (S_api_Node.mk 0 [] [] []) pre_S_api_Node kids_S_api_Node a2.f_Kids]), (6, 25, [.val (.int .i64 0), .str [], .val (.slice none 0 0), .val (.slice none 0 0)])]) (ob := []) (by kernel_rfl) AllP.nil ?_
  refine To.thenN ?_
  refine Wp.cond (b := (bif (a0.f_Kind != 0) then (a0.f_Kind != 3) else false)) (by kernel_rfl) (fun hb => ?_) (fun hb => ?_)
  · replace h := if_t hb h
    refine Wp.seq ?_
    refine Wp.region hΓ [] [] [] [6] [6] (K' := [(6, .own 6 0)]) (L' := [(6, 25, [.val (.int .i64 a0.f_Kind), .str a0.f_Text, .recs (α := List UInt8) [] E_string a0.f_Keys, .tree (α := S_api_Node) (S_api_Node.mk 0 [] [] []) pre_S_api_Node kids_S_api_Node a0.f_Kids])]) (ob := []) (by kernel_rfl) AllP.nil ?_
    refine To.thenN ?_
    refine Wp.ret ?_
    refine To.thenR ?_
    refine To.keep (kk := [6]) (kl := [6]) (K' := [(6, .own 6 0)]) (L' := [(6, 25, [.val (.int .i64 a0.f_Kind), .str a0.f_Text, .recs (α := List UInt8) [] E_string a0.f_Keys, .tree (α := S_api_Node) (S_api_Node.mk 0 [] [] []) pre_S_api_Node kids_S_api_Node a0.f_Kids])]) (by kernel_rfl) (by kernel_rfl) ?_
    cases h
    exact To.done hΓ (by kernel_rfl)
  · replace h := if_f hb h
    refine Wp.skip ?_
    refine To.thenN ?_
    refine Wp.seq ?_
    refine Wp.region hΓ [] [] [] [1, 3, 5, 6, 7] [3, 5, 6, 7] (K' := [(1, .str a1), (3, .own 3 0), (5, .own 5 0), (6, .own 6 0), (7, .own 7 0)]) (L' := [(3, 25, [.val (.int .i64 a0.f_Kind), .str a0.f_Text, .recs (α := List UInt8) [] E_string a0.f_Keys, .tree (α := S_api_Node) (S_api_Node.mk 0 [] [] []) pre_S_api_Node kids_S_api_Node a0.f_Kids]), (5, 25, [.val (.int .i64 a2.f_Kind), .str a2.f_Text, .recs (α := List UInt8) [] E_string a2.f_Keys, .tree (α := S_api_Node) (S_api_Node.mk 0 [] [] []) pre_S_api_Node kids_S_api_Node a2.f_Kids]), (6, 25, [.val (.int .i64 0), .str [], .val (.slice none 0 0), .val (.slice none 0 0)]), (7, 25, [.val (.int .i64 3), .str [], .val (.slice none 0 0), .val (.slice none 0 0)])]) (ob := []) (by kernel_rfl) AllP.nil ?_
    refine To.thenN ?_
    refine Wp.seq ?_
    refine Wp.region hΓ [] [] [] [1, 3, 5, 6, 7, 8] [3, 5, 6, 7] (K' := [(1, .str a1), (3, .own 3 0), (5, .own 5 0), (6, .own 6 0), (7, .own 7 0), (8, .val (.bool false))]) (L' := [(3, 25, [.val (.int .i64 a0.f_Kind), .str a0.f_Text, .recs (α := List UInt8) [] E_string a0.f_Keys, .tree (α := S_api_Node) (S_api_Node.mk 0 [] [] []) pre_S_api_Node kids_S_api_Node a0.f_Kids]), (5, 25, [.val (.int .i64 a2.f_Kind), .str a2.f_Text, .recs (α := List UInt8) [] E_string a2.f_Keys, .tree (α := S_api_Node) (S_api_Node.mk 0 [] [] []) pre_S_api_Node kids_S_api_Node a2.f_Kids]), (6, 25, [.val (.int .i64 0), .str [], .val (.slice none 0 0), .val (.slice none 0 0)]), (7, 25, [.val (.int .i64 3), .str [], .val (.slice none 0 0), .val (.slice none 0 0)])]) (ob := []) (by kernel_rfl) AllP.nil ?_
    refine To.thenN ?_
    refine Wp.seq ?_
    refine Wp.seq ?_
    refine Wp.region hΓ [] [] [] [1, 3, 5, 6, 7, 8, 9] [3, 5, 6, 7] (K' := [(1, .str a1), (3, .own 3 0), (5, .own 5 0), (6, .own 6 0), (7, .own 7 0), (8, .val (.bool false)), (9, .val (.int .i64 0))]) (L' := [(3, 25, [.val (.int .i64 a0.f_Kind), .str a0.f_Text, .recs (α := List UInt8) [] E_string a0.f_Keys, .tree (α := S_api_Node) (S_api_Node.mk 0 [] [] []) pre_S_api_Node kids_S_api_Node a0.f_Kids]), (5, 25, [.val (.int .i64 a2.f_Kind), .str a2.f_Text, .recs (α := List UInt8) [] E_string a2.f_Keys, .tree (α := S_api_Node) (S_api_Node.mk 0 [] [] []) pre_S_api_Node kids_S_api_Node a2.f_Kids]), (6, 25, [.val (.int .i64 0), .str [], .val (.slice none 0 0), .val (.slice none 0 0)]), (7, 25, [.val (.int .i64 3), .str [], .val (.slice none 0 0), .val (.slice none 0 0)])]) (ob := []) (by kernel_rfl) AllP.nil ?_
    refine To.thenN ?_
    refine Wp.block ?_
    obtain ⟨o1, ho1, h⟩ := bind_of h
    refine Wp.keep (kk := [1, 3, 5, 6, 7, 8, 9]) (kl := [3, 5, 6, 7]) (K' := [(1, .str a1), (3, .own 3 0), (5, .own 5 0), (6, .own 6 0), (7, .own 7 0), (8, .val (.bool false)), (9, .val (.int .i64 0))]) (L' := [(3, 25, [.val (.int .i64 a0.f_Kind), .str a0.f_Text, .recs (α := List UInt8) [] E_string a0.f_Keys, .tree (α := S_api_Node) (S_api_Node.mk 0 [] [] []) pre_S_api_Node kids_S_api_Node a0.f_Kids]), (5, 25, [.val (.int .i64 a2.f_Kind), .str a2.f_Text, .recs (α := List UInt8) [] E_string a2.f_Keys, .tree (α := S_api_Node) (S_api_Node.mk 0 [] [] []) pre_S_api_Node kids_S_api_Node a2.f_Kids]), (6, 25, [.val (.int .i64 0), .str [], .val (.slice none 0 0), .val (.slice none 0 0)]), (7, 25, [.val (.int .i64 3), .str [], .val (.slice none 0 0), .val (.slice none 0 0)])]) (by kernel_rfl) (by kernel_rfl) ?_
    refine Wp.pre (St.vacantB 7 2 4422 9 (good_E_string _) (by decide) (by kernel_rfl) (L' := [(3, 25, [.val (.int .i64 a0.f_Kind), .str a0.f_Text, .recs (α := List UInt8) [] E_string a0.f_Keys, .tree (α := S_api_Node) (S_api_Node.mk 0 [] [] []) pre_S_api_Node kids_S_api_Node a0.f_Kids]), (5, 25, [.val (.int .i64 a2.f_Kind), .str a2.f_Text, .recs (α := List UInt8) [] E_string a2.f_Keys, .tree (α := S_api_Node) (S_api_Node.mk 0 [] [] []) pre_S_api_Node kids_S_api_Node a2.f_Kids]), (6, 25, [.val (.int .i64 0), .str [], .val (.slice none 0 0), .val (.slice none 0 0)]), (7, 25, [.val (.int .i64 3), .str [], .row 4422, .val (.slice none 0 0)])]) (by kernel_rfl)) ?_
    refine Wp.keep (kk := [1, 3, 5, 6, 7, 8, 9]) (kl := [3, 5, 6, 7, 4422]) (K' := [(1, .str a1), (3, .own 3 0), (5, .own 5 0), (6, .own 6 0), (7, .own 7 0), (8, .val (.bool false)), (9, .val (.int .i64 0))]) (L' := [(3, 25, [.val (.int .i64 a0.f_Kind), .str a0.f_Text, .recs (α := List UInt8) [] E_string a0.f_Keys, .tree (α := S_api_Node) (S_api_Node.mk 0 [] [] []) pre_S_api_Node kids_S_api_Node a0.f_Kids]), (5, 25, [.val (.int .i64 a2.f_Kind), .str a2.f_Text, .recs (α := List UInt8) [] E_string a2.f_Keys, .tree (α := S_api_Node) (S_api_Node.mk 0 [] [] []) pre_S_api_Node kids_S_api_Node a2.f_Kids]), (6, 25, [.val (.int .i64 0), .str [], .val (.slice none 0 0), .val (.slice none 0 0)]), (7, 25, [.val (.int .i64 3), .str [], .row 4422, .val (.slice none 0 0)]), (4422, 9, [.rowc false (α := List UInt8) [] E_string []])]) (by kernel_rfl) (by kernel_rfl) ?_
    refine Wp.pre (St.vacantB 7 3 4423 25 (good_E_api_Node _) (by decide) (by kernel_rfl) (L' := [(3, 25, [.val (.int .i64 a0.f_Kind), .str a0.f_Text, .recs (α := List UInt8) [] E_string a0.f_Keys, .tree (α := S_api_Node) (S_api_Node.mk 0 [] [] []) pre_S_api_Node kids_S_api_Node a0.f_Kids]), (5, 25, [.val (.int .i64 a2.f_Kind), .str a2.f_Text, .recs (α := List UInt8) [] E_string a2.f_Keys, .tree (α := S_api_Node) (S_api_Node.mk 0 [] [] []) pre_S_api_Node kids_S_api_Node a2.f_Kids]), (6, 25, [.val (.int .i64 0), .str [], .val (.slice none 0 0), .val (.slice none 0 0)]), (7, 25, [.val (.int .i64 3), .str [], .row 4422, .row 4423]), (4422, 9, [.rowc false (α := List UInt8) [] E_string []])]) (by kernel_rfl)) ?_
    refine Wp.keep (kk := [1, 3, 5, 6, 7, 8, 9]) (kl := [3, 5, 6, 7, 4422, 4423]) (K' := [(1, .str a1), (3, .own 3 0), (5, .own 5 0), (6, .own 6 0), (7, .own 7 0), (8, .val (.bool false)), (9, .val (.int .i64 0))]) (L' := [(3, 25, [.val (.int .i64 a0.f_Kind), .str a0.f_Text, .recs (α := List UInt8) [] E_string a0.f_Keys, .tree (α := S_api_Node) (S_api_Node.mk 0 [] [] []) pre_S_api_Node kids_S_api_Node a0.f_Kids]), (5, 25, [.val (.int .i64 a2.f_Kind), .str a2.f_Text, .recs (α := List UInt8) [] E_string a2.f_Keys, .tree (α := S_api_Node) (S_api_Node.mk 0 [] [] []) pre_S_api_Node kids_S_api_Node a2.f_Kids]), (6, 25, [.val (.int .i64 0), .str [], .val (.slice none 0 0), .val (.slice none 0 0)]), (7, 25, [.val (.int .i64 3), .str [], .row 4422, .row 4423]), (4422, 9, [.rowc false (α := List UInt8) [] E_string []]), (4423, 25, [.rowc false (α := S_api_Node) (S_api_Node.mk 0 [] [] []) E_api_Node []])]) (by kernel_rfl) (by kernel_rfl) ?_
    refine Wp.weak (K' := [(1, .str a1), (3, .own 3 0), (5, .own 5 0), (6, .own 6 0), (7, .own 7 0), (8, .val (.bool false)), (9, .val (.int .i64 0))]) (L' := [(3, 25, [.val (.int .i64 a0.f_Kind), .str a0.f_Text, .recs (α := List UInt8) [] E_string a0.f_Keys, .tree (α := S_api_Node) (S_api_Node.mk 0 [] [] []) pre_S_api_Node kids_S_api_Node a0.f_Kids]), (5, 25, [.val (.int .i64 a2.f_Kind), .str a2.f_Text, .recs (α := List UInt8) [] E_string a2.f_Keys, .tree (α := S_api_Node) (S_api_Node.mk 0 [] [] []) pre_S_api_Node kids_S_api_Node a2.f_Kids]), (6, 25, [.val (.int .i64 0), .str [], .recs (α := List UInt8) [] E_string [], .tree (α := S_api_Node) (S_api_Node.mk 0 [] [] []) pre_S_api_Node kids_S_api_Node []]), (7, 25, [.val (.int .i64 3), .str [], .row 4422, .row 4423]), (4422, 9, [.rowc false (α := List UInt8) [] E_string []]), (4423, 25, [.rowc false (α := S_api_Node) (S_api_Node.mk 0 [] [] []) E_api_Node []])]) (.cons (.refl _) (.cons (.refl _) (.cons (.refl _) (.cons (.refl _) (.cons (.refl _) (.cons (.refl _) (.cons (.refl _) .nil))))))) (.cons (.cons (.refl _) (.cons (.refl _) (.cons (.refl _) (.cons (.refl _) .nil)))) (.cons (.cons (.refl _) (.cons (.refl _) (.cons (.refl _) (.cons (.refl _) .nil)))) (.cons (.cons (.refl _) (.cons (.refl _) (.cons (.zero _ _) (.cons (.zeroT _ _ _) .nil)))) (.cons (.cons (.refl _) (.cons (.refl _) (.cons (.refl _) (.cons (.refl _) .nil)))) (.cons (.cons (.refl _) .nil) (.cons (.cons (.refl _) .nil) .nil)))))) ?_
    refine Wp.loopL ?_
    refine ok_ref08_With_l1 n a1 a0 a2 (S_api_Node.mk 0 [] [] []) n false 0 (S_api_Node.mk 3 [] [] []) o1 ho1 ?_
    refine To.blockX ?_
    refine To.thenN ?_
    refine Wp.seq ?_
    refine Wp.seq ?_
    refine Wp.region hΓ [] [] [] [1, 5, 6, 7, 61] [5, 6, 7, 4422, 4423] (K' := [(1, .str a1), (5, .own 5 0), (6, .own 6 0), (7, .own 7 0), (61, .val (.bool (!o1.1)))]) (L' := [(5, 25, [.val (.int .i64 a2.f_Kind), .str a2.f_Text, .recs (α := List UInt8) [] E_string a2.f_Keys, .tree (α := S_api_Node) (S_api_Node.mk 0 [] [] []) pre_S_api_Node kids_S_api_Node a2.f_Kids]), (6, 25, [.val (.int .i64 0), .str [], .recs (α := List UInt8) [] E_string [], .tree (α := S_api_Node) (S_api_Node.mk 0 [] [] []) pre_S_api_Node kids_S_api_Node []]), (7, 25, [.val (.int .i64 o1.2.f_Kind), .str o1.2.f_Text, .row 4422, .row 4423]), (4422, 9, [.rowc false (α := List UInt8) [] E_string o1.2.f_Keys]), (4423, 25, [.rowc false (α := S_api_Node) (S_api_Node.mk 0 [] [] []) E_api_Node o1.2.f_Kids])]) (ob := []) (by kernel_rfl) AllP.nil ?_
    refine To.thenN ?_
    obtain ⟨o2, ho2, h⟩ := bind_of h
    refine Wp.keep (kk := [1, 5, 6, 7, 61]) (kl := [5, 6, 7, 4422, 4423]) (K' := [(1, .str a1), (5, .own 5 0), (6, .own 6 0), (7, .own 7 0), (61, .val (.bool (!o1.1)))]) (L' := [(5, 25, [.val (.int .i64 a2.f_Kind), .str a2.f_Text, .recs (α := List UInt8) [] E_string a2.f_Keys, .tree (α := S_api_Node) (S_api_Node.mk 0 [] [] []) pre_S_api_Node kids_S_api_Node a2.f_Kids]), (6, 25, [.val (.int .i64 0), .str [], .recs (α := List UInt8) [] E_string [], .tree (α := S_api_Node) (S_api_Node.mk 0 [] [] []) pre_S_api_Node kids_S_api_Node []]), (7, 25, [.val (.int .i64 o1.2.f_Kind), .str o1.2.f_Text, .row 4422, .row 4423]), (4422, 9, [.rowc false (α := List UInt8) [] E_string o1.2.f_Keys]), (4423, 25, [.rowc false (α := S_api_Node) (S_api_Node.mk 0 [] [] []) E_api_Node o1.2.f_Kids])]) (by kernel_rfl) (by kernel_rfl) ?_
    refine ok_ref08_With_j3 n a1 (!o1.1) a2 (S_api_Node.mk 0 [] [] []) o1.2 o2 ho2 ?_
    refine To.thenN ?_
    refine Wp.seq ?_
    refine Wp.region hΓ [] [] [] [6] [6, 4422, 4423] (K' := [(6, .own 6 0)]) (L' := [(6, 25, [.val (.int .i64 o2.f_Kind), .str o2.f_Text, .row 4422, .row 4423]), (4422, 9, [.rowc false (α := List UInt8) [] E_string o2.f_Keys]), (4423, 25, [.rowc false (α := S_api_Node) (S_api_Node.mk 0 [] [] []) E_api_Node o2.f_Kids])]) (ob := []) (by kernel_rfl) AllP.nil ?_
    refine To.thenN ?_
    refine Wp.ret ?_
    refine To.keep (kk := [6]) (kl := [6, 4422, 4423]) (K' := [(6, .own 6 0)]) (L' := [(6, 25, [.val (.int .i64 o2.f_Kind), .str o2.f_Text, .row 4422, .row 4423]), (4422, 9, [.rowc false (α := List UInt8) [] E_string o2.f_Keys]), (4423, 25, [.rowc false (α := S_api_Node) (S_api_Node.mk 0 [] [] []) E_api_Node o2.f_Kids])]) (by kernel_rfl) (by kernel_rfl) ?_
    refine To.pre (St.settle (ks := [4422, 4423]) (kk := [6]) (kl := [6, 4422, 4423]) (K' := [(6, .own 6 0)]) (L' := [(6, 25, [.val (.int .i64 o2.f_Kind), .str o2.f_Text, .row 4422, .row 4423]), (4422, 9, [.rowc true (α := List UInt8) [] E_string o2.f_Keys]), (4423, 25, [.rowc true (α := S_api_Node) (S_api_Node.mk 0 [] [] []) E_api_Node o2.f_Kids])]) (by kernel_rfl)) ?_
    refine To.pre (St.sealB [6] (L' := [(6, 25, [.val (.int .i64 o2.f_Kind), .str o2.f_Text, .recs (α := List UInt8) [] E_string o2.f_Keys, .recs (α := S_api_Node) (S_api_Node.mk 0 [] [] []) E_api_Node o2.f_Kids]), (4422, 9, [.rowc true (α := List UInt8) [] E_string o2.f_Keys]), (4423, 25, [.rowc true (α := S_api_Node) (S_api_Node.mk 0 [] [] []) E_api_Node o2.f_Kids])]) (by kernel_rfl)) ?_
    refine To.weak (K' := [(6, .own 6 0)]) (L' := [(6, 25, [.val (.int .i64 o2.f_Kind), .str o2.f_Text, .recs (α := List UInt8) [] E_string o2.f_Keys, .tree (α := S_api_Node) (S_api_Node.mk 0 [] [] []) pre_S_api_Node kids_S_api_Node o2.f_Kids]), (4422, 9, [.rowc true (α := List UInt8) [] E_string o2.f_Keys]), (4423, 25, [.rowc true (α := S_api_Node) (S_api_Node.mk 0 [] [] []) E_api_Node o2.f_Kids])]) (.cons (.refl _) .nil) (.cons (.cons (.refl _) (.cons (.refl _) (.cons (.refl _) (.cons (.close _ _ _ _) .nil)))) (.cons (.cons (.refl _) .nil) (.cons (.cons (.refl _) .nil) .nil))) ?_
    refine To.keep (kk := [6]) (kl := [6]) (K' := [(6, .own 6 0)]) (L' := [(6, 25, [.val (.int .i64 o2.f_Kind), .str o2.f_Text, .recs (α := List UInt8) [] E_string o2.f_Keys, .tree (α := S_api_Node) (S_api_Node.mk 0 [] [] []) pre_S_api_Node kids_S_api_Node o2.f_Kids])]) (by kernel_rfl) (by kernel_rfl) ?_
    cases h
    exact To.done hΓ (by kernel_rfl)
def E_Lstring : List (List UInt8) → List D := fun x => [.recs (α := List UInt8) [] E_string x]
def slices_Concat_string_string_j2 (n : Nat) (v0 : List (List (List UInt8))) (v3 : Int) (v9 : List (List (List UInt8))) (v10 : Int) (v11 : Int) : Option (Int) :=
  if (decide (0 ≤ v11 ∧ v11 < (List.length v9 : Int))) = true then (if (decide ((IntKind.wrap .i64 (v3 + (List.length ((v9)[Int.toNat v11]?.getD []) : Int))) < 0)) = true then none
  else (some (IntKind.wrap .i64 (v3 + (List.length ((v9)[Int.toNat v11]?.getD []) : Int))))) else none
theorem ok_slices_Concat_string_string_j2 (n : Nat) (v0 : List (List (List UInt8))) (v3 : Int) (v9 : List (List (List UInt8))) (v10 : Int) (v11 : Int) (o : Int) (h : slices_Concat_string_string_j2 n v0 v3 v9 v10 v11 = some o) {F0 : Fz} {w0 : Pt Try.prog} {Q : Exit → Act → World → Prop} (hQ : To 36 F0 w0 [(0, .recs (α := List (List UInt8)) [] E_Lstring v0), (3, .val (.int .i64 o)), (9, .recs (α := List (List UInt8)) [] E_Lstring v9), (10, .val (.int .i64 v10)), (11, .val (.int .i64 v11))] [] .normal Q) : Wp Try.prog 36 F0 w0 [(0, .recs (α := List (List UInt8)) [] E_Lstring v0), (3, .val (.int .i64 v3)), (9, .recs (α := List (List UInt8)) [] E_Lstring v9), (10, .val (.int .i64 v10)), (11, .val (.int .i64 v11))] [] (cA (cB (cB (cI (cI (cB (cA (cB (cB (cF Try.f44)))))))))) Q := by
  unfold slices_Concat_string_string_j2 at h
  refine Wp.block ?_
  refine Wp.seq ?_
  obtain ⟨hc1, h⟩ := chk_of h
  refine Wp.region hΓ [] [] [] [0, 3, 5, 9, 10, 11] [] (K' := [(0, .recs (α := List (List UInt8)) [] E_Lstring v0), (3, .val (.int .i64 v3)), (5, .recs (α := List UInt8) [] E_string ((v9)[Int.toNat v11]?.getD [])), (9, .recs (α := List (List UInt8)) [] E_Lstring v9), (10, .val (.int .i64 v10)), (11, .val (.int .i64 v11))]) (L' := []) (ob := [(decide (0 ≤ v11 ∧ v11 < (List.length v9 : Int))) = true]) (by kernel_rfl) (AllP.cons hc1 AllP.nil) ?_
  refine To.thenN ?_
  refine Wp.seq ?_
  refine Wp.region hΓ [] [] [] [0, 3, 9, 10, 11] [] (K' := [(0, .recs (α := List (List UInt8)) [] E_Lstring v0), (3, .val (.int .i64 (IntKind.wrap .i64 (v3 + (List.length ((v9)[Int.toNat v11]?.getD []) : Int))))), (9, .recs (α := List (List UInt8)) [] E_Lstring v9), (10, .val (.int .i64 v10)), (11, .val (.int .i64 v11))]) (L' := []) (ob := []) (by kernel_rfl) AllP.nil ?_
  refine To.thenN ?_
  refine Wp.seq ?_
  refine Wp.region hΓ [] [] [] [0, 3, 9, 10, 11, 20] [] (K' := [(0, .recs (α := List (List UInt8)) [] E_Lstring v0), (3, .val (.int .i64 (IntKind.wrap .i64 (v3 + (List.length ((v9)[Int.toNat v11]?.getD []) : Int))))), (9, .recs (α := List (List UInt8)) [] E_Lstring v9), (10, .val (.int .i64 v10)), (11, .val (.int .i64 v11)), (20, .val (.bool (decide ((IntKind.wrap .i64 (v3 + (List.length ((v9)[Int.toNat v11]?.getD []) : Int))) < 0))))]) (L' := []) (ob := []) (by kernel_rfl) AllP.nil ?_
  refine To.thenN ?_
  refine Wp.cond (b := (decide ((IntKind.wrap .i64 (v3 + (List.length ((v9)[Int.toNat v11]?.getD []) : Int))) < 0))) (by kernel_rfl) (fun hb => ?_) (fun hb => ?_)
  · replace h := if_t hb h
    cases h
  · replace h := if_f hb h
    refine Wp.skip ?_
    refine To.blockN ?_
    refine To.keep (kk := [0, 3, 9, 10, 11]) (kl := []) (K' := [(0, .recs (α := List (List UInt8)) [] E_Lstring v0), (3, .val (.int .i64 (IntKind.wrap .i64 (v3 + (List.length ((v9)[Int.toNat v11]?.getD []) : Int))))), (9, .recs (α := List (List UInt8)) [] E_Lstring v9), (10, .val (.int .i64 v10)), (11, .val (.int .i64 v11))]) (L' := []) (by kernel_rfl) (by kernel_rfl) ?_
    cases h
    exact hQ
def slices_Concat_string_string_l1 (n : Nat) (v0 : List (List (List UInt8))) (v9 : List (List (List UInt8))) (v10 : Int) : Nat → Int → Int → Option (Int)
  | 0, _, _ => none
  | k + 1, v3, v11 => if (decide (v11 < v10)) = true then ((slices_Concat_string_string_j2 n v0 v3 v9 v10 v11).bind fun o1 =>
  slices_Concat_string_string_l1 n v0 v9 v10 k o1 (IntKind.wrap .i64 (v11 + 1)))
  else some v3
theorem ok_slices_Concat_string_string_l1 (n : Nat) (v0 : List (List (List UInt8))) (v9 : List (List (List UInt8))) (v10 : Int) {F0 : Fz} {w0 : Pt Try.prog} {Q : Exit → Act → World → Prop} (k : Nat) : ∀ (v3 : Int) (v11 : Int) (o : Int), slices_Concat_string_string_l1 n v0 v9 v10 k v3 v11 = some o → To 36 F0 w0 [(0, .recs (α := List (List UInt8)) [] E_Lstring v0), (3, .val (.int .i64 o))] [] (.exit 0) Q → WL Try.prog 36 F0 w0 [(0, .recs (α := List (List UInt8)) [] E_Lstring v0), (3, .val (.int .i64 v3)), (9, .recs (α := List (List UInt8)) [] E_Lstring v9), (10, .val (.int .i64 v10)), (11, .val (.int .i64 v11))] [] (cI (cI (cB (cA (cB (cB (cF Try.f44))))))) Q := by
  induction k with
  | zero => intro v3 v11 o h; cases h
  | succ k ih =>
    intro v3 v11 o h hQ
    rw [slices_Concat_string_string_l1] at h
    refine WL.round ?_
    refine Wp.seq ?_
    refine Wp.region hΓ [] [] [] [0, 3, 9, 10, 11, 12] [] (K' := [(0, .recs (α := List (List UInt8)) [] E_Lstring v0), (3, .val (.int .i64 v3)), (9, .recs (α := List (List UInt8)) [] E_Lstring v9), (10, .val (.int .i64 v10)), (11, .val (.int .i64 v11)), (12, .val (.bool (decide (v11 < v10))))]) (L' := []) (ob := []) (by kernel_rfl) AllP.nil ?_
    refine To.thenN ?_
    refine Wp.seq ?_
    refine Wp.cond (b := (decide (v11 < v10))) (by kernel_rfl) (fun hb => ?_) (fun hb => ?_)
    · replace h := if_t hb h
      refine Wp.skip ?_
      refine To.thenN ?_
      refine Wp.seq ?_
      obtain ⟨o1, ho1, h⟩ := bind_of h
      refine Wp.keep (kk := [0, 3, 9, 10, 11]) (kl := []) (K' := [(0, .recs (α := List (List UInt8)) [] E_Lstring v0), (3, .val (.int .i64 v3)), (9, .recs (α := List (List UInt8)) [] E_Lstring v9), (10, .val (.int .i64 v10)), (11, .val (.int .i64 v11))]) (L' := []) (by kernel_rfl) (by kernel_rfl) ?_
      refine ok_slices_Concat_string_string_j2 n v0 v3 v9 v10 v11 o1 ho1 ?_
      refine To.thenN ?_
      refine Wp.region hΓ [] [] [] [0, 3, 9, 10, 11] [] (K' := [(0, .recs (α := List (List UInt8)) [] E_Lstring v0), (3, .val (.int .i64 o1)), (9, .recs (α := List (List UInt8)) [] E_Lstring v9), (10, .val (.int .i64 v10)), (11, .val (.int .i64 (IntKind.wrap .i64 (v11 + 1))))]) (L' := []) (ob := []) (by kernel_rfl) AllP.nil ?_
      refine To.keep (kk := [0, 3, 9, 10, 11]) (kl := []) (K' := [(0, .recs (α := List (List UInt8)) [] E_Lstring v0), (3, .val (.int .i64 o1)), (9, .recs (α := List (List UInt8)) [] E_Lstring v9), (10, .val (.int .i64 v10)), (11, .val (.int .i64 (IntKind.wrap .i64 (v11 + 1))))]) (L' := []) (by kernel_rfl) (by kernel_rfl) ?_
      refine To.again ?_
      exact ih o1 (IntKind.wrap .i64 (v11 + 1)) _ h hQ
    · replace h := if_f hb h
      refine Wp.exit ?_
      refine To.thenX ?_
      refine To.thenX ?_
      refine To.keep (kk := [0, 3]) (kl := []) (K' := [(0, .recs (α := List (List UInt8)) [] E_Lstring v0), (3, .val (.int .i64 v3))]) (L' := []) (by kernel_rfl) (by kernel_rfl) ?_
      cases h
      exact hQ
def slices_Concat_string_string_l3 (n : Nat) (v25 : List (List (List UInt8))) (v26 : Int) : Nat → (List (List UInt8)) → Int → Option ((List (List UInt8)))
  | 0, _, _ => none
  | k + 1, v6, v27 => if (decide (v27 < v26)) = true then (if (decide (0 ≤ v27 ∧ v27 < (List.length v25 : Int))) = true then (if (decide ((List.length v6 + List.length ((v25)[Int.toNat v27]?.getD [])) * (16 + 1) ≤ limit)) = true then (slices_Concat_string_string_l3 n v25 v26 k (v6 ++ ((v25)[Int.toNat v27]?.getD [])) (IntKind.wrap .i64 (v27 + 1))) else none) else none)
  else some v6
theorem ok_slices_Concat_string_string_l3 (n : Nat) (v25 : List (List (List UInt8))) (v26 : Int) {F0 : Fz} {w0 : Pt Try.prog} {Q : Exit → Act → World → Prop} (k : Nat) : ∀ (v6 : List (List UInt8)) (v27 : Int) (o : (List (List UInt8))), slices_Concat_string_string_l3 n v25 v26 k v6 v27 = some o → To 36 F0 w0 [(6, .row 1006)] [(1006, 9, [.rowc false (α := List UInt8) [] E_string o])] (.exit 2) Q → WL Try.prog 36 F0 w0 [(6, .row 1006), (25, .recs (α := List (List UInt8)) [] E_Lstring v25), (26, .val (.int .i64 v26)), (27, .val (.int .i64 v27))] [(1006, 9, [.rowc false (α := List UInt8) [] E_string v6])] (cI (cI (cB (cA (cB (cB (cB (cB (cF Try.f44))))))))) Q := by
  induction k with
  | zero => intro v6 v27 o h; cases h
  | succ k ih =>
    intro v6 v27 o h hQ
    rw [slices_Concat_string_string_l3] at h
    refine WL.round ?_
    refine Wp.seq ?_
    refine Wp.region hΓ [] [] [] [6, 25, 26, 27, 28] [1006] (K' := [(6, .row 1006), (25, .recs (α := List (List UInt8)) [] E_Lstring v25), (26, .val (.int .i64 v26)), (27, .val (.int .i64 v27)), (28, .val (.bool (decide (v27 < v26))))]) (L' := [(1006, 9, [.rowc false (α := List UInt8) [] E_string v6])]) (ob := []) (by kernel_rfl) AllP.nil ?_
    refine To.thenN ?_
    refine Wp.seq ?_
    refine Wp.cond (b := (decide (v27 < v26))) (by kernel_rfl) (fun hb => ?_) (fun hb => ?_)
    · replace h := if_t hb h
      refine Wp.skip ?_
      refine To.thenN ?_
      refine Wp.seq ?_
      refine Wp.block ?_
      refine Wp.seq ?_
      obtain ⟨hc4, h⟩ := chk_of h
      refine Wp.region hΓ [] [] [] [6, 8, 25, 26, 27] [1006] (K' := [(6, .row 1006), (8, .recs (α := List UInt8) [] E_string ((v25)[Int.toNat v27]?.getD [])), (25, .recs (α := List (List UInt8)) [] E_Lstring v25), (26, .val (.int .i64 v26)), (27, .val (.int .i64 v27))]) (L' := [(1006, 9, [.rowc false (α := List UInt8) [] E_string v6])]) (ob := [(decide (0 ≤ v27 ∧ v27 < (List.length v25 : Int))) = true]) (by kernel_rfl) (AllP.cons hc4 AllP.nil) ?_
      refine To.thenN ?_
      obtain ⟨hc3, h⟩ := chk_of h
      refine Wp.region hΓ [] [(2, .recs (α := List UInt8) [] E_string (v6 ++ ((v25)[Int.toNat v27]?.getD [])))] [] [6, 25, 26, 27] [33] (K' := [(6, .row 33), (25, .recs (α := List (List UInt8)) [] E_Lstring v25), (26, .val (.int .i64 v26)), (27, .val (.int .i64 v27))]) (L' := [(33, 9, [.rowc false (α := List UInt8) [] E_string (v6 ++ ((v25)[Int.toNat v27]?.getD []))])]) (ob := [(decide ((List.length v6 + List.length ((v25)[Int.toNat v27]?.getD [])) * (16 + 1) ≤ limit)) = true, (AppOb [] E_string v6 (List.flatMap E_string ((v25)[Int.toNat v27]?.getD [])) (List.length ((v25)[Int.toNat v27]?.getD [])) (.recs (α := List UInt8) [] E_string (v6 ++ ((v25)[Int.toNat v27]?.getD []))) ∧ GoodR (.recs (α := List UInt8) [] E_string (v6 ++ ((v25)[Int.toNat v27]?.getD []))))]) (by kernel_rfl) (AllP.cons hc3 (AllP.cons (appOb rfl rfl (good_E_string _)) AllP.nil)) ?_
      refine To.blockN ?_
      refine To.thenN ?_
      refine Wp.region hΓ [] [] [] [6, 25, 26, 27] [33] (K' := [(6, .row 33), (25, .recs (α := List (List UInt8)) [] E_Lstring v25), (26, .val (.int .i64 v26)), (27, .val (.int .i64 (IntKind.wrap .i64 (v27 + 1))))]) (L' := [(33, 9, [.rowc false (α := List UInt8) [] E_string (v6 ++ ((v25)[Int.toNat v27]?.getD []))])]) (ob := []) (by kernel_rfl) AllP.nil ?_
      refine To.keep (kk := [6, 25, 26, 27]) (kl := [33]) (K' := [(6, .row 33), (25, .recs (α := List (List UInt8)) [] E_Lstring v25), (26, .val (.int .i64 v26)), (27, .val (.int .i64 (IntKind.wrap .i64 (v27 + 1))))]) (L' := [(33, 9, [.rowc false (α := List UInt8) [] E_string (v6 ++ ((v25)[Int.toNat v27]?.getD []))])]) (by kernel_rfl) (by kernel_rfl) ?_
      refine To.pre (St.rename 33 1006 (by decide) (K' := [(6, .row 1006), (25, .recs (α := List (List UInt8)) [] E_Lstring v25), (26, .val (.int .i64 v26)), (27, .val (.int .i64 (IntKind.wrap .i64 (v27 + 1))))]) (L' := [(1006, 9, [.rowc false (α := List UInt8) [] E_string (v6 ++ ((v25)[Int.toNat v27]?.getD []))])]) (by kernel_rfl) (by kernel_rfl) (by kernel_rfl)) ?_
      refine To.keep (kk := [6, 25, 26, 27]) (kl := [1006]) (K' := [(6, .row 1006), (25, .recs (α := List (List UInt8)) [] E_Lstring v25), (26, .val (.int .i64 v26)), (27, .val (.int .i64 (IntKind.wrap .i64 (v27 + 1))))]) (L' := [(1006, 9, [.rowc false (α := List UInt8) [] E_string (v6 ++ ((v25)[Int.toNat v27]?.getD []))])]) (by kernel_rfl) (by kernel_rfl) ?_
      refine To.again ?_
      exact ih (v6 ++ ((v25)[Int.toNat v27]?.getD [])) (IntKind.wrap .i64 (v27 + 1)) _ h hQ
    · replace h := if_f hb h
      refine Wp.exit ?_
      refine To.thenX ?_
      refine To.thenX ?_
      refine To.keep (kk := [6]) (kl := [1006]) (K' := [(6, .row 1006)]) (L' := [(1006, 9, [.rowc false (α := List UInt8) [] E_string v6])]) (by kernel_rfl) (by kernel_rfl) ?_
      cases h
      exact hQ
def slices_Concat_string_string (n : Nat) (a0 : List (List (List UInt8))) : Option ((List (List UInt8))) :=
  (slices_Concat_string_string_l1 n a0 a0 (List.length a0 : Int) n 0 0).bind fun o1 =>
  if (decide (0 ≤ o1 ∧ o1 * 17 ≤ (limit : Int))) = true then ((slices_Concat_string_string_l3 n a0 (List.length a0 : Int) n ([] : List (List UInt8)) 0).bind fun o3 =>
  some o3) else none
theorem ok_slices_Concat_string_string (n : Nat) (a0 : List (List (List UInt8))) (r : (List (List UInt8))) (h : slices_Concat_string_string n a0 = some r) : CallsX Try.prog 44 [.recs (α := List (List UInt8)) [] E_Lstring a0] (.recs (α := List UInt8) [] E_string r) := by
  unfold slices_Concat_string_string at h
  refine callsX_of (fn := Try.f44) (by kernel_rfl) rfl (by kernel_rfl) (Nat.le_of_ble_eq_true (by kernel_rfl)) fun F0 w0 _ => ?_
  refine Wp.keep (kk := [0]) (kl := []) (K' := [(0, .recs (α := List (List UInt8)) [] E_Lstring a0)]) (L' := []) (by kernel_rfl) (by kernel_rfl) ?_
  refine Wp.seq ?_
  refine Wp.region hΓ [] [] [] [0] [] (K' := [(0, .recs (α := List (List UInt8)) [] E_Lstring a0)]) (L' := []) (ob := []) (by kernel_rfl) AllP.nil ?_
  refine To.thenN ?_
  refine Wp.seq ?_
  refine Wp.region hΓ [] [] [] [0, 3] [] (K' := [(0, .recs (α := List (List UInt8)) [] E_Lstring a0), (3, .val (.int .i64 0))]) (L' := []) (ob := []) (by kernel_rfl) AllP.nil ?_
  refine To.thenN ?_
  refine Wp.seq ?_
  refine Wp.seq ?_
  refine Wp.region hΓ [] [] [] [0, 3, 9, 10, 11] [] (K' := [(0, .recs (α := List (List UInt8)) [] E_Lstring a0), (3, .val (.int .i64 0)), (9, .recs (α := List (List UInt8)) [] E_Lstring a0), (10, .val (.int .i64 (List.length a0 : Int))), (11, .val (.int .i64 0))]) (L' := []) (ob := []) (by kernel_rfl) AllP.nil ?_
  refine To.thenN ?_
  refine Wp.block ?_
  obtain ⟨o1, ho1, h⟩ := bind_of h
  refine Wp.keep (kk := [0, 3, 9, 10, 11]) (kl := []) (K' := [(0, .recs (α := List (List UInt8)) [] E_Lstring a0), (3, .val (.int .i64 0)), (9, .recs (α := List (List UInt8)) [] E_Lstring a0), (10, .val (.int .i64 (List.length a0 : Int))), (11, .val (.int .i64 0))]) (L' := []) (by kernel_rfl) (by kernel_rfl) ?_
  refine Wp.loopL ?_
  refine ok_slices_Concat_string_string_l1 n a0 a0 (List.length a0 : Int) n 0 0 o1 ho1 ?_
  refine To.blockX ?_
  refine To.thenN ?_
  refine Wp.seq ?_
  obtain ⟨u2, h⟩ := chk_of h
  refine Wp.region hΓ [] [] [(1, ⟨[], [(1, 24)], [.val (.slice none 0 0), .val (.int .i64 o1)], [], .row 1, [(1, 9, [.rowc false (α := List UInt8) [] E_string []])]⟩)] [0, 6] [24] (K' := [(0, .recs (α := List (List UInt8)) [] E_Lstring a0), (6, .row 24)]) (L' := [(24, 9, [.rowc false (α := List UInt8) [] E_string []])]) (ob := [CbOb (CallsB Try.prog) 52 [.val (.slice none 0 0), .val (.int .i64 o1)] [] ⟨[], [(1, 24)], [.val (.slice none 0 0), .val (.int .i64 o1)], [], .row 1, [(1, 9, [.rowc false (α := List UInt8) [] E_string []])]⟩]) (by kernel_rfl) (AllP.cons (⟨Sh.grow52 u2, by kernel_rfl, by kernel_rfl⟩) AllP.nil) ?_
  refine To.thenN ?_
  refine Wp.seq ?_
  refine Wp.seq ?_
  refine Wp.region hΓ [] [] [] [6, 25, 26, 27] [24] (K' := [(6, .row 24), (25, .recs (α := List (List UInt8)) [] E_Lstring a0), (26, .val (.int .i64 (List.length a0 : Int))), (27, .val (.int .i64 0))]) (L' := [(24, 9, [.rowc false (α := List UInt8) [] E_string []])]) (ob := []) (by kernel_rfl) AllP.nil ?_
  refine To.thenN ?_
  refine Wp.block ?_
  obtain ⟨o3, ho3, h⟩ := bind_of h
  refine Wp.keep (kk := [6, 25, 26, 27]) (kl := [24]) (K' := [(6, .row 24), (25, .recs (α := List (List UInt8)) [] E_Lstring a0), (26, .val (.int .i64 (List.length a0 : Int))), (27, .val (.int .i64 0))]) (L' := [(24, 9, [.rowc false (α := List UInt8) [] E_string []])]) (by kernel_rfl) (by kernel_rfl) ?_
  refine Wp.pre (St.rename 24 1006 (by decide) (K' := [(6, .row 1006), (25, .recs (α := List (List UInt8)) [] E_Lstring a0), (26, .val (.int .i64 (List.length a0 : Int))), (27, .val (.int .i64 0))]) (L' := [(1006, 9, [.rowc false (α := List UInt8) [] E_string []])]) (by kernel_rfl) (by kernel_rfl) (by kernel_rfl)) ?_
  refine Wp.keep (kk := [6, 25, 26, 27]) (kl := [1006]) (K' := [(6, .row 1006), (25, .recs (α := List (List UInt8)) [] E_Lstring a0), (26, .val (.int .i64 (List.length a0 : Int))), (27, .val (.int .i64 0))]) (L' := [(1006, 9, [.rowc false (α := List UInt8) [] E_string []])]) (by kernel_rfl) (by kernel_rfl) ?_
  refine Wp.loopL ?_
  refine ok_slices_Concat_string_string_l3 n a0 (List.length a0 : Int) n ([] : List (List UInt8)) 0 o3 ho3 ?_
  refine To.blockX ?_
  refine To.thenN ?_
  refine Wp.seq ?_
  refine Wp.region hΓ [] [] [] [2] [1006] (K' := [(2, .row 1006)]) (L' := [(1006, 9, [.rowc false (α := List UInt8) [] E_string o3])]) (ob := []) (by kernel_rfl) AllP.nil ?_
  refine To.thenN ?_
  refine Wp.ret ?_
  refine To.keep (kk := [2]) (kl := [1006]) (K' := [(2, .row 1006)]) (L' := [(1006, 9, [.rowc false (α := List UInt8) [] E_string o3])]) (by kernel_rfl) (by kernel_rfl) ?_
  refine To.pre (St.settle (ks := [1006]) (kk := [2]) (kl := [1006]) (K' := [(2, .row 1006)]) (L' := [(1006, 9, [.rowc true (α := List UInt8) [] E_string o3])]) (by kernel_rfl)) ?_
  refine To.pre (St.sealK [2] (K' := [(2, .recs (α := List UInt8) [] E_string o3)]) (by kernel_rfl)) ?_
  refine To.keep (kk := [2]) (kl := []) (K' := [(2, .recs (α := List UInt8) [] E_string o3)]) (L' := []) (by kernel_rfl) (by kernel_rfl) ?_
  cases h
  exact To.done hΓ (by kernel_rfl)
def E_Lapi_Node : List (S_api_Node) → List D := fun x => [.recs (α := S_api_Node) (S_api_Node.mk 0 [] [] []) E_api_Node x]
theorem grow53 {x : Int} (h : decide (0 ≤ x ∧ x * 73 ≤ (limit : Int)) = true) : CallsB Try.prog 53 [.val (.slice none 0 0), .val (.int .i64 x)] [] (.row 1) [(1, 25, [.rowc false (α := S_api_Node) (S_api_Node.mk 0 [] [] []) E_api_Node []])] := callsB_growI (size := 4) (bytes := 72) ⟨Try.f53, by kernel_rfl, by kernel_rfl, by kernel_rfl⟩ (good_E_api_Node []) (by kernel_rfl) (by kernel_rfl)
  (fun w => Any8.slices_Grow_room Try.laysG53 none 0 0 0 w (by decide) (by decide) (by decide) (by decide))
  (fun i z hi hz hs n w h1 h2 h3 => by
    have h := Any8.slices_Grow_grow Try.laysG53 i z hi hz hs none 0 0 n [] w (Nat.le_refl _) (by omega) (by simpa using h2) (by simpa using h3) (by simp) (fun _ => rfl) (fun a h => by cases h)
    simp only [Nat.zero_add, Nat.sub_zero] at h
    exact h) h
def slices_Concat_api_Node_api_Node_j2 (n : Nat) (v0 : List (List (S_api_Node))) (v3 : Int) (v9 : List (List (S_api_Node))) (v10 : Int) (v11 : Int) : Option (Int) :=
  if (decide (0 ≤ v11 ∧ v11 < (List.length v9 : Int))) = true then (if (decide ((IntKind.wrap .i64 (v3 + (List.length ((v9)[Int.toNat v11]?.getD []) : Int))) < 0)) = true then none
  else (some (IntKind.wrap .i64 (v3 + (List.length ((v9)[Int.toNat v11]?.getD []) : Int))))) else none
theorem ok_slices_Concat_api_Node_api_Node_j2 (n : Nat) (v0 : List (List (S_api_Node))) (v3 : Int) (v9 : List (List (S_api_Node))) (v10 : Int) (v11 : Int) (o : Int) (h : slices_Concat_api_Node_api_Node_j2 n v0 v3 v9 v10 v11 = some o) {F0 : Fz} {w0 : Pt Try.prog} {Q : Exit → Act → World → Prop} (hQ : To 36 F0 w0 [(0, .recs (α := List (S_api_Node)) [] E_Lapi_Node v0), (3, .val (.int .i64 o)), (9, .recs (α := List (S_api_Node)) [] E_Lapi_Node v9), (10, .val (.int .i64 v10)), (11, .val (.int .i64 v11))] [] .normal Q) : Wp Try.prog 36 F0 w0 [(0, .recs (α := List (S_api_Node)) [] E_Lapi_Node v0), (3, .val (.int .i64 v3)), (9, .recs (α := List (S_api_Node)) [] E_Lapi_Node v9), (10, .val (.int .i64 v10)), (11, .val (.int .i64 v11))] [] (cA (cB (cB (cI (cI (cB (cA (cB (cB (cF Try.f45)))))))))) Q := by
  unfold slices_Concat_api_Node_api_Node_j2 at h
  refine Wp.block ?_
  refine Wp.seq ?_
  obtain ⟨hc1, h⟩ := chk_of h
  refine Wp.region hΓ [] [] [] [0, 3, 5, 9, 10, 11] [] (K' := [(0, .recs (α := List (S_api_Node)) [] E_Lapi_Node v0), (3, .val (.int .i64 v3)), (5, .recs (α := S_api_Node) (S_api_Node.mk 0 [] [] []) E_api_Node ((v9)[Int.toNat v11]?.getD [])), (9, .recs (α := List (S_api_Node)) [] E_Lapi_Node v9), (10, .val (.int .i64 v10)), (11, .val (.int .i64 v11))]) (L' := []) (ob := [(decide (0 ≤ v11 ∧ v11 < (List.length v9 : Int))) = true]) (by kernel_rfl) (AllP.cons hc1 AllP.nil) ?_
  refine To.thenN ?_
  refine Wp.seq ?_
  refine Wp.region hΓ [] [] [] [0, 3, 9, 10, 11] [] (K' := [(0, .recs (α := List (S_api_Node)) [] E_Lapi_Node v0), (3, .val (.int .i64 (IntKind.wrap .i64 (v3 + (List.length ((v9)[Int.toNat v11]?.getD []) : Int))))), (9, .recs (α := List (S_api_Node)) [] E_Lapi_Node v9), (10, .val (.int .i64 v10)), (11, .val (.int .i64 v11))]) (L' := []) (ob := []) (by kernel_rfl) AllP.nil ?_
  refine To.thenN ?_
  refine Wp.seq ?_
  refine Wp.region hΓ [] [] [] [0, 3, 9, 10, 11, 20] [] (K' := [(0, .recs (α := List (S_api_Node)) [] E_Lapi_Node v0), (3, .val (.int .i64 (IntKind.wrap .i64 (v3 + (List.length ((v9)[Int.toNat v11]?.getD []) : Int))))), (9, .recs (α := List (S_api_Node)) [] E_Lapi_Node v9), (10, .val (.int .i64 v10)), (11, .val (.int .i64 v11)), (20, .val (.bool (decide ((IntKind.wrap .i64 (v3 + (List.length ((v9)[Int.toNat v11]?.getD []) : Int))) < 0))))]) (L' := []) (ob := []) (by kernel_rfl) AllP.nil ?_
  refine To.thenN ?_
  refine Wp.cond (b := (decide ((IntKind.wrap .i64 (v3 + (List.length ((v9)[Int.toNat v11]?.getD []) : Int))) < 0))) (by kernel_rfl) (fun hb => ?_) (fun hb => ?_)
  · replace h := if_t hb h
    cases h
  · replace h := if_f hb h
    refine Wp.skip ?_
    refine To.blockN ?_
    refine To.keep (kk := [0, 3, 9, 10, 11]) (kl := []) (K' := [(0, .recs (α := List (S_api_Node)) [] E_Lapi_Node v0), (3, .val (.int .i64 (IntKind.wrap .i64 (v3 + (List.length ((v9)[Int.toNat v11]?.getD []) : Int))))), (9, .recs (α := List (S_api_Node)) [] E_Lapi_Node v9), (10, .val (.int .i64 v10)), (11, .val (.int .i64 v11))]) (L' := []) (by kernel_rfl) (by kernel_rfl) ?_
    cases h
    exact hQ
def slices_Concat_api_Node_api_Node_l1 (n : Nat) (v0 : List (List (S_api_Node))) (v9 : List (List (S_api_Node))) (v10 : Int) : Nat → Int → Int → Option (Int)
  | 0, _, _ => none
  | k + 1, v3, v11 => if (decide (v11 < v10)) = true then ((slices_Concat_api_Node_api_Node_j2 n v0 v3 v9 v10 v11).bind fun o1 =>
  slices_Concat_api_Node_api_Node_l1 n v0 v9 v10 k o1 (IntKind.wrap .i64 (v11 + 1)))
  else some v3
theorem ok_slices_Concat_api_Node_api_Node_l1 (n : Nat) (v0 : List (List (S_api_Node))) (v9 : List (List (S_api_Node))) (v10 : Int) {F0 : Fz} {w0 : Pt Try.prog} {Q : Exit → Act → World → Prop} (k : Nat) : ∀ (v3 : Int) (v11 : Int) (o : Int), slices_Concat_api_Node_api_Node_l1 n v0 v9 v10 k v3 v11 = some o → To 36 F0 w0 [(0, .recs (α := List (S_api_Node)) [] E_Lapi_Node v0), (3, .val (.int .i64 o))] [] (.exit 0) Q → WL Try.prog 36 F0 w0 [(0, .recs (α := List (S_api_Node)) [] E_Lapi_Node v0), (3, .val (.int .i64 v3)), (9, .recs (α := List (S_api_Node)) [] E_Lapi_Node v9), (10, .val (.int .i64 v10)), (11, .val (.int .i64 v11))] [] (cI (cI (cB (cA (cB (cB (cF Try.f45))))))) Q := by
  induction k with
  | zero => intro v3 v11 o h; cases h
  | succ k ih =>
    intro v3 v11 o h hQ
    rw [slices_Concat_api_Node_api_Node_l1] at h
    refine WL.round ?_
    refine Wp.seq ?_
    refine Wp.region hΓ [] [] [] [0, 3, 9, 10, 11, 12] [] (K' := [(0, .recs (α := List (S_api_Node)) [] E_Lapi_Node v0), (3, .val (.int .i64 v3)), (9, .recs (α := List (S_api_Node)) [] E_Lapi_Node v9), (10, .val (.int .i64 v10)), (11, .val (.int .i64 v11)), (12, .val (.bool (decide (v11 < v10))))]) (L' := []) (ob := []) (by kernel_rfl) AllP.nil ?_
    refine To.thenN ?_
    refine Wp.seq ?_
    refine Wp.cond (b := (decide (v11 < v10))) (by kernel_rfl) (fun hb => ?_) (fun hb => ?_)
    · replace h := if_t hb h
      refine Wp.skip ?_
      refine To.thenN ?_
      refine Wp.seq ?_
      obtain ⟨o1, ho1, h⟩ := bind_of h
      refine Wp.keep (kk := [0, 3, 9, 10, 11]) (kl := []) (K' := [(0, .recs (α := List (S_api_Node)) [] E_Lapi_Node v0), (3, .val (.int .i64 v3)), (9, .recs (α := List (S_api_Node)) [] E_Lapi_Node v9), (10, .val (.int .i64 v10)), (11, .val (.int .i64 v11))]) (L' := []) (by kernel_rfl) (by kernel_rfl) ?_
      refine ok_slices_Concat_api_Node_api_Node_j2 n v0 v3 v9 v10 v11 o1 ho1 ?_
      refine To.thenN ?_
      refine Wp.region hΓ [] [] [] [0, 3, 9, 10, 11] [] (K' := [(0, .recs (α := List (S_api_Node)) [] E_Lapi_Node v0), (3, .val (.int .i64 o1)), (9, .recs (α := List (S_api_Node)) [] E_Lapi_Node v9), (10, .val (.int .i64 v10)), (11, .val (.int .i64 (IntKind.wrap .i64 (v11 + 1))))]) (L' := []) (ob := []) (by kernel_rfl) AllP.nil ?_
      refine To.keep (kk := [0, 3, 9, 10, 11]) (kl := []) (K' := [(0, .recs (α := List (S_api_Node)) [] E_Lapi_Node v0), (3, .val (.int .i64 o1)), (9, .recs (α := List (S_api_Node)) [] E_Lapi_Node v9), (10, .val (.int .i64 v10)), (11, .val (.int .i64 (IntKind.wrap .i64 (v11 + 1))))]) (L' := []) (by kernel_rfl) (by kernel_rfl) ?_
      refine To.again ?_
      exact ih o1 (IntKind.wrap .i64 (v11 + 1)) _ h hQ
    · replace h := if_f hb h
      refine Wp.exit ?_
      refine To.thenX ?_
      refine To.thenX ?_
      refine To.keep (kk := [0, 3]) (kl := []) (K' := [(0, .recs (α := List (S_api_Node)) [] E_Lapi_Node v0), (3, .val (.int .i64 v3))]) (L' := []) (by kernel_rfl) (by kernel_rfl) ?_
      cases h
      exact hQ
def slices_Concat_api_Node_api_Node_l3 (n : Nat) (v25 : List (List (S_api_Node))) (v26 : Int) : Nat → (List (S_api_Node)) → Int → Option ((List (S_api_Node)))
  | 0, _, _ => none
  | k + 1, v6, v27 => if (decide (v27 < v26)) = true then (if (decide (0 ≤ v27 ∧ v27 < (List.length v25 : Int))) = true then (if (decide ((List.length v6 + List.length ((v25)[Int.toNat v27]?.getD [])) * (72 + 1) ≤ limit)) = true then (slices_Concat_api_Node_api_Node_l3 n v25 v26 k (v6 ++ ((v25)[Int.toNat v27]?.getD [])) (IntKind.wrap .i64 (v27 + 1))) else none) else none)
  else some v6
theorem ok_slices_Concat_api_Node_api_Node_l3 (n : Nat) (v25 : List (List (S_api_Node))) (v26 : Int) {F0 : Fz} {w0 : Pt Try.prog} {Q : Exit → Act → World → Prop} (k : Nat) : ∀ (v6 : List (S_api_Node)) (v27 : Int) (o : (List (S_api_Node))), slices_Concat_api_Node_api_Node_l3 n v25 v26 k v6 v27 = some o → To 36 F0 w0 [(6, .row 1006)] [(1006, 25, [.rowc false (α := S_api_Node) (S_api_Node.mk 0 [] [] []) E_api_Node o])] (.exit 2) Q → WL Try.prog 36 F0 w0 [(6, .row 1006), (25, .recs (α := List (S_api_Node)) [] E_Lapi_Node v25), (26, .val (.int .i64 v26)), (27, .val (.int .i64 v27))] [(1006, 25, [.rowc false (α := S_api_Node) (S_api_Node.mk 0 [] [] []) E_api_Node v6])] (cI (cI (cB (cA (cB (cB (cB (cB (cF Try.f45))))))))) Q := by
  induction k with
  | zero => intro v6 v27 o h; cases h
  | succ k ih =>
    intro v6 v27 o h hQ
    rw [slices_Concat_api_Node_api_Node_l3] at h
    refine WL.round ?_
    refine Wp.seq ?_
    refine Wp.region hΓ [] [] [] [6, 25, 26, 27, 28] [1006] (K' := [(6, .row 1006), (25, .recs (α := List (S_api_Node)) [] E_Lapi_Node v25), (26, .val (.int .i64 v26)), (27, .val (.int .i64 v27)), (28, .val (.bool (decide (v27 < v26))))]) (L' := [(1006, 25, [.rowc false (α := S_api_Node) (S_api_Node.mk 0 [] [] []) E_api_Node v6])]) (ob := []) (by kernel_rfl) AllP.nil ?_
    refine To.thenN ?_
    refine Wp.seq ?_
    refine Wp.cond (b := (decide (v27 < v26))) (by kernel_rfl) (fun hb => ?_) (fun hb => ?_)
    · replace h := if_t hb h
      refine Wp.skip ?_
      refine To.thenN ?_
      refine Wp.seq ?_
      refine Wp.block ?_
      refine Wp.seq ?_
      obtain ⟨hc4, h⟩ := chk_of h
      refine Wp.region hΓ [] [] [] [6, 8, 25, 26, 27] [1006] (K' := [(6, .row 1006), (8, .recs (α := S_api_Node) (S_api_Node.mk 0 [] [] []) E_api_Node ((v25)[Int.toNat v27]?.getD [])), (25, .recs (α := List (S_api_Node)) [] E_Lapi_Node v25), (26, .val (.int .i64 v26)), (27, .val (.int .i64 v27))]) (L' := [(1006, 25, [.rowc false (α := S_api_Node) (S_api_Node.mk 0 [] [] []) E_api_Node v6])]) (ob := [(decide (0 ≤ v27 ∧ v27 < (List.length v25 : Int))) = true]) (by kernel_rfl) (AllP.cons hc4 AllP.nil) ?_
      refine To.thenN ?_
      obtain ⟨hc3, h⟩ := chk_of h
      refine Wp.region hΓ [] [(2, .recs (α := S_api_Node) (S_api_Node.mk 0 [] [] []) E_api_Node (v6 ++ ((v25)[Int.toNat v27]?.getD [])))] [] [6, 25, 26, 27] [33] (K' := [(6, .row 33), (25, .recs (α := List (S_api_Node)) [] E_Lapi_Node v25), (26, .val (.int .i64 v26)), (27, .val (.int .i64 v27))]) (L' := [(33, 25, [.rowc false (α := S_api_Node) (S_api_Node.mk 0 [] [] []) E_api_Node (v6 ++ ((v25)[Int.toNat v27]?.getD []))])]) (ob := [(decide ((List.length v6 + List.length ((v25)[Int.toNat v27]?.getD [])) * (72 + 1) ≤ limit)) = true, (AppOb (S_api_Node.mk 0 [] [] []) E_api_Node v6 (List.flatMap E_api_Node ((v25)[Int.toNat v27]?.getD [])) (List.length ((v25)[Int.toNat v27]?.getD [])) (.recs (α := S_api_Node) (S_api_Node.mk 0 [] [] []) E_api_Node (v6 ++ ((v25)[Int.toNat v27]?.getD []))) ∧ GoodR (.recs (α := S_api_Node) (S_api_Node.mk 0 [] [] []) E_api_Node (v6 ++ ((v25)[Int.toNat v27]?.getD []))))]) (by kernel_rfl) (AllP.cons hc3 (AllP.cons (appOb rfl rfl (good_E_api_Node _)) AllP.nil)) ?_
      refine To.blockN ?_
      refine To.thenN ?_
      refine Wp.region hΓ [] [] [] [6, 25, 26, 27] [33] (K' := [(6, .row 33), (25, .recs (α := List (S_api_Node)) [] E_Lapi_Node v25), (26, .val (.int .i64 v26)), (27, .val (.int .i64 (IntKind.wrap .i64 (v27 + 1))))]) (L' := [(33, 25, [.rowc false (α := S_api_Node) (S_api_Node.mk 0 [] [] []) E_api_Node (v6 ++ ((v25)[Int.toNat v27]?.getD []))])]) (ob := []) (by kernel_rfl) AllP.nil ?_
      refine To.keep (kk := [6, 25, 26, 27]) (kl := [33]) (K' := [(6, .row 33), (25, .recs (α := List (S_api_Node)) [] E_Lapi_Node v25), (26, .val (.int .i64 v26)), (27, .val (.int .i64 (IntKind.wrap .i64 (v27 + 1))))]) (L' := [(33, 25, [.rowc false (α := S_api_Node) (S_api_Node.mk 0 [] [] []) E_api_Node (v6 ++ ((v25)[Int.toNat v27]?.getD []))])]) (by kernel_rfl) (by kernel_rfl) ?_
      refine To.pre (St.rename 33 1006 (by decide) (K' := [(6, .row 1006), (25, .recs (α := List (S_api_Node)) [] E_Lapi_Node v25), (26, .val (.int .i64 v26)), (27, .val (.int .i64 (IntKind.wrap .i64 (v27 + 1))))]) (L' := [(1006, 25, [.rowc false (α := S_api_Node) (S_api_Node.mk 0 [] [] []) E_api_Node (v6 ++ ((v25)[Int.toNat v27]?.getD []))])]) (by kernel_rfl) (by kernel_rfl) (by kernel_rfl)) ?_
      refine To.keep (kk := [6, 25, 26, 27]) (kl := [1006]) (K' := [(6, .row 1006), (25, .recs (α := List (S_api_Node)) [] E_Lapi_Node v25), (26, .val (.int .i64 v26)), (27, .val (.int .i64 (IntKind.wrap .i64 (v27 + 1))))]) (L' := [(1006, 25, [.rowc false (α := S_api_Node) (S_api_Node.mk 0 [] [] []) E_api_Node (v6 ++ ((v25)[Int.toNat v27]?.getD []))])]) (by kernel_rfl) (by kernel_rfl) ?_
      refine To.again ?_
      exact ih (v6 ++ ((v25)[Int.toNat v27]?.getD [])) (IntKind.wrap .i64 (v27 + 1)) _ h hQ
    · replace h := if_f hb h
      refine Wp.exit ?_
      refine To.thenX ?_
      refine To.thenX ?_
      refine To.keep (kk := [6]) (kl := [1006]) (K' := [(6, .row 1006)]) (L' := [(1006, 25, [.rowc false (α := S_api_Node) (S_api_Node.mk 0 [] [] []) E_api_Node v6])]) (by kernel_rfl) (by kernel_rfl) ?_
      cases h
      exact hQ
def slices_Concat_api_Node_api_Node (n : Nat) (a0 : List (List (S_api_Node))) : Option ((List (S_api_Node))) :=
  (slices_Concat_api_Node_api_Node_l1 n a0 a0 (List.length a0 : Int) n 0 0).bind fun o1 =>
  if (decide (0 ≤ o1 ∧ o1 * 73 ≤ (limit : Int))) = true then ((slices_Concat_api_Node_api_Node_l3 n a0 (List.length a0 : Int) n ([] : List (S_api_Node)) 0).bind fun o3 =>
  some o3) else none
theorem ok_slices_Concat_api_Node_api_Node (n : Nat) (a0 : List (List (S_api_Node))) (r : (List (S_api_Node))) (h : slices_Concat_api_Node_api_Node n a0 = some r) : CallsX Try.prog 45 [.recs (α := List (S_api_Node)) [] E_Lapi_Node a0] (.recs (α := S_api_Node) (S_api_Node.mk 0 [] [] []) E_api_Node r) := by
  unfold slices_Concat_api_Node_api_Node at h
  refine callsX_of (fn := Try.f45) (by kernel_rfl) rfl (by kernel_rfl) (Nat.le_of_ble_eq_true (by kernel_rfl)) fun F0 w0 _ => ?_
  refine Wp.keep (kk := [0]) (kl := []) (K' := [(0, .recs (α := List (S_api_Node)) [] E_Lapi_Node a0)]) (L' := []) (by kernel_rfl) (by kernel_rfl) ?_
  refine Wp.seq ?_
  refine Wp.region hΓ [] [] [] [0] [] (K' := [(0, .recs (α := List (S_api_Node)) [] E_Lapi_Node a0)]) (L' := []) (ob := []) (by kernel_rfl) AllP.nil ?_
  refine To.thenN ?_
  refine Wp.seq ?_
  refine Wp.region hΓ [] [] [] [0, 3] [] (K' := [(0, .recs (α := List (S_api_Node)) [] E_Lapi_Node a0), (3, .val (.int .i64 0))]) (L' := []) (ob := []) (by kernel_rfl) AllP.nil ?_
  refine To.thenN ?_
  refine Wp.seq ?_
  refine Wp.seq ?_
  refine Wp.region hΓ [] [] [] [0, 3, 9, 10, 11] [] (K' := [(0, .recs (α := List (S_api_Node)) [] E_Lapi_Node a0), (3, .val (.int .i64 0)), (9, .recs (α := List (S_api_Node)) [] E_Lapi_Node a0), (10, .val (.int .i64 (List.length a0 : Int))), (11, .val (.int .i64 0))]) (L' := []) (ob := []) (by kernel_rfl) AllP.nil ?_
  refine To.thenN ?_
  refine Wp.block ?_
  obtain ⟨o1, ho1, h⟩ := bind_of h
  refine Wp.keep (kk := [0, 3, 9, 10, 11]) (kl := []) (K' := [(0, .recs (α := List (S_api_Node)) [] E_Lapi_Node a0), (3, .val (.int .i64 0)), (9, .recs (α := List (S_api_Node)) [] E_Lapi_Node a0), (10, .val (.int .i64 (List.length a0 : Int))), (11, .val (.int .i64 0))]) (L' := []) (by kernel_rfl) (by kernel_rfl) ?_
  refine Wp.loopL ?_
  refine ok_slices_Concat_api_Node_api_Node_l1 n a0 a0 (List.length a0 : Int) n 0 0 o1 ho1 ?_
  refine To.blockX ?_
  refine To.thenN ?_
  refine Wp.seq ?_
  obtain ⟨u2, h⟩ := chk_of h
  refine Wp.region hΓ [] [] [(1, ⟨[], [(1, 24)], [.val (.slice none 0 0), .val (.int .i64 o1)], [], .row 1, [(1, 25, [.rowc false (α := S_api_Node) (S_api_Node.mk 0 [] [] []) E_api_Node []])]⟩)] [0, 6] [24] (K' := [(0, .recs (α := List (S_api_Node)) [] E_Lapi_Node a0), (6, .row 24)]) (L' := [(24, 25, [.rowc false (α := S_api_Node) (S_api_Node.mk 0 [] [] []) E_api_Node []])]) (ob := [CbOb (CallsB Try.prog) 53 [.val (.slice none 0 0), .val (.int .i64 o1)] [] ⟨[], [(1, 24)], [.val (.slice none 0 0), .val (.int .i64 o1)], [], .row 1, [(1, 25, [.rowc false (α := S_api_Node) (S_api_Node.mk 0 [] [] []) E_api_Node []])]⟩]) (by kernel_rfl) (AllP.cons (⟨grow53 u2, by kernel_rfl, by kernel_rfl⟩) AllP.nil) ?_
  refine To.thenN ?_
  refine Wp.seq ?_
  refine Wp.seq ?_
  refine Wp.region hΓ [] [] [] [6, 25, 26, 27] [24] (K' := [(6, .row 24), (25, .recs (α := List (S_api_Node)) [] E_Lapi_Node a0), (26, .val (.int .i64 (List.length a0 : Int))), (27, .val (.int .i64 0))]) (L' := [(24, 25, [.rowc false (α := S_api_Node) (S_api_Node.mk 0 [] [] []) E_api_Node []])]) (ob := []) (by kernel_rfl) AllP.nil ?_
  refine To.thenN ?_
  refine Wp.block ?_
  obtain ⟨o3, ho3, h⟩ := bind_of h
  refine Wp.keep (kk := [6, 25, 26, 27]) (kl := [24]) (K' := [(6, .row 24), (25, .recs (α := List (S_api_Node)) [] E_Lapi_Node a0), (26, .val (.int .i64 (List.length a0 : Int))), (27, .val (.int .i64 0))]) (L' := [(24, 25, [.rowc false (α := S_api_Node) (S_api_Node.mk 0 [] [] []) E_api_Node []])]) (by kernel_rfl) (by kernel_rfl) ?_
  refine Wp.pre (St.rename 24 1006 (by decide) (K' := [(6, .row 1006), (25, .recs (α := List (S_api_Node)) [] E_Lapi_Node a0), (26, .val (.int .i64 (List.length a0 : Int))), (27, .val (.int .i64 0))]) (L' := [(1006, 25, [.rowc false (α := S_api_Node) (S_api_Node.mk 0 [] [] []) E_api_Node []])]) (by kernel_rfl) (by kernel_rfl) (by kernel_rfl)) ?_
  refine Wp.keep (kk := [6, 25, 26, 27]) (kl := [1006]) (K' := [(6, .row 1006), (25, .recs (α := List (S_api_Node)) [] E_Lapi_Node a0), (26, .val (.int .i64 (List.length a0 : Int))), (27, .val (.int .i64 0))]) (L' := [(1006, 25, [.rowc false (α := S_api_Node) (S_api_Node.mk 0 [] [] []) E_api_Node []])]) (by kernel_rfl) (by kernel_rfl) ?_
  refine Wp.loopL ?_
  refine ok_slices_Concat_api_Node_api_Node_l3 n a0 (List.length a0 : Int) n ([] : List (S_api_Node)) 0 o3 ho3 ?_
  refine To.blockX ?_
  refine To.thenN ?_
  refine Wp.seq ?_
  refine Wp.region hΓ [] [] [] [2] [1006] (K' := [(2, .row 1006)]) (L' := [(1006, 25, [.rowc false (α := S_api_Node) (S_api_Node.mk 0 [] [] []) E_api_Node o3])]) (ob := []) (by kernel_rfl) AllP.nil ?_
  refine To.thenN ?_
  refine Wp.ret ?_
  refine To.keep (kk := [2]) (kl := [1006]) (K' := [(2, .row 1006)]) (L' := [(1006, 25, [.rowc false (α := S_api_Node) (S_api_Node.mk 0 [] [] []) E_api_Node o3])]) (by kernel_rfl) (by kernel_rfl) ?_
  refine To.pre (St.settle (ks := [1006]) (kk := [2]) (kl := [1006]) (K' := [(2, .row 1006)]) (L' := [(1006, 25, [.rowc true (α := S_api_Node) (S_api_Node.mk 0 [] [] []) E_api_Node o3])]) (by kernel_rfl)) ?_
  refine To.pre (St.sealK [2] (K' := [(2, .recs (α := S_api_Node) (S_api_Node.mk 0 [] [] []) E_api_Node o3)]) (by kernel_rfl)) ?_
  refine To.keep (kk := [2]) (kl := []) (K' := [(2, .recs (α := S_api_Node) (S_api_Node.mk 0 [] [] []) E_api_Node o3)]) (L' := []) (by kernel_rfl) (by kernel_rfl) ?_
  cases h
  exact To.done hΓ (by kernel_rfl)
theorem good_E_Lstring (l : List (List (List UInt8))) : GoodR (.recs [] E_Lstring l) := ⟨Nat.le_of_ble_eq_true (by kernel_rfl), fun _ => ⟨rfl, rfl⟩⟩
theorem good_E_Lapi_Node (l : List (List (S_api_Node))) : GoodR (.recs [] E_Lapi_Node l) := ⟨Nat.le_of_ble_eq_true (by kernel_rfl), fun _ => ⟨rfl, rfl⟩⟩
def node_Less (n : Nat) (a0 : S_api_Node) (a1 : List UInt8) : Option (S_api_Node) :=
  (node_place n a0 a1).bind fun r1 =>
  if (decide (r1 < 0)) = true then some a0
  else (if (decide (0 ≤ r1 ∧ r1 ≤ (List.length a0.f_Keys : Int))) = true then (if (decide (0 ≤ (IntKind.wrap .i64 (r1 + 1)) ∧ (IntKind.wrap .i64 (r1 + 1)) ≤ (List.length a0.f_Keys : Int))) = true then ((slices_Concat_string_string n [(List.take (Int.toNat r1) a0.f_Keys), (List.drop (Int.toNat (IntKind.wrap .i64 (r1 + 1))) a0.f_Keys)]).bind fun r2 =>
  if (decide (0 ≤ r1 ∧ r1 ≤ (List.length a0.f_Kids : Int))) = true then (if (decide (0 ≤ (IntKind.wrap .i64 (r1 + 1)) ∧ (IntKind.wrap .i64 (r1 + 1)) ≤ (List.length a0.f_Kids : Int))) = true then ((slices_Concat_api_Node_api_Node n [(List.take (Int.toNat r1) a0.f_Kids), (List.drop (Int.toNat (IntKind.wrap .i64 (r1 + 1))) a0.f_Kids)]).bind fun r3 =>
  some (S_api_Node.mk 3 [] r2 r3)) else none) else none) else none) else none)
theorem ok_node_Less (n : Nat) (a0 : S_api_Node) (a1 : List UInt8) (r : S_api_Node) (h : node_Less n a0 a1 = some r) : CallsX Try.prog 25 [.agg [.val (.int .i64 a0.f_Kind), .str a0.f_Text, .recs (α := List UInt8) [] E_string a0.f_Keys, .tree (α := S_api_Node) (S_api_Node.mk 0 [] [] []) pre_S_api_Node kids_S_api_Node a0.f_Kids], .str a1] (.agg [.val (.int .i64 r.f_Kind), .str r.f_Text, .recs (α := List UInt8) [] E_string r.f_Keys, .tree (α := S_api_Node) (S_api_Node.mk 0 [] [] []) pre_S_api_Node kids_S_api_Node r.f_Kids]) := by
  unfold node_Less at h
  refine callsX_of (fn := Try.f25) (by kernel_rfl) rfl (by kernel_rfl) (Nat.le_of_ble_eq_true (by kernel_rfl)) fun F0 w0 _ => ?_
  refine Wp.keep (kk := [0, 1]) (kl := []) (K' := [(0, .agg [.val (.int .i64 a0.f_Kind), .str a0.f_Text, .recs (α := List UInt8) [] E_string a0.f_Keys, .tree (α := S_api_Node) (S_api_Node.mk 0 [] [] []) pre_S_api_Node kids_S_api_Node a0.f_Kids]), (1, .str a1)]) (L' := []) (by kernel_rfl) (by kernel_rfl) ?_
  refine Wp.seq ?_
  refine Wp.region hΓ [] [] [] [1, 2, 4] [2, 4] (K' := [(1, .str a1), (2, .own 2 0), (4, .own 4 0)]) (L' := [(2, 25, [.val (.int .i64 a0.f_Kind), .str a0.f_Text, .recs (α := List UInt8) [] E_string a0.f_Keys, .tree (α := S_api_Node) (S_api_Node.mk 0 [] [] []) pre_S_api_Node kids_S_api_Node a0.f_Kids]), (4, 25, [.val (.int .i64 0), .str [], .val (.slice none 0 0), .val (.slice none 0 0)])]) (ob := []) (by kernel_rfl) AllP.nil ?_
  refine To.thenN ?_
  refine Wp.seq ?_
  obtain ⟨r1, hr1, h⟩ := bind_of h
  refine Wp.region hΓ [] [(2, .val (.int .i64 r1))] [] [2, 4, 5] [2, 4] (K' := [(2, .own 2 0), (4, .own 4 0), (5, .val (.int .i64 r1))]) (L' := [(2, 25, [.val (.int .i64 a0.f_Kind), .str a0.f_Text, .recs (α := List UInt8) [] E_string a0.f_Keys, .tree (α := S_api_Node) (S_api_Node.mk 0 [] [] []) pre_S_api_Node kids_S_api_Node a0.f_Kids]), (4, 25, [.val (.int .i64 0), .str [], .val (.slice none 0 0), .val (.slice none 0 0)])]) (ob := [(true = true → CX Try.prog 40 [.agg [.val (.int .i64 a0.f_Kind), .str a0.f_Text, .recs (α := List UInt8) [] E_string a0.f_Keys, .tree (α := S_api_Node) (S_api_Node.mk 0 [] [] []) pre_S_api_Node kids_S_api_Node a0.f_Kids], .str a1] (.val (.int .i64 r1)))]) (by kernel_rfl) (AllP.cons (fun _ => cx (ok_node_place n a0 a1 _ hr1)) AllP.nil) ?_
  refine To.thenN ?_
  refine Wp.seq ?_
  refine Wp.seq ?_
  refine Wp.region hΓ [] [] [] [2, 4, 5, 10] [2, 4] (K' := [(2, .own 2 0), (4, .own 4 0), (5, .val (.int .i64 r1)), (10, .val (.bool (decide (r1 < 0))))]) (L' := [(2, 25, [.val (.int .i64 a0.f_Kind), .str a0.f_Text, .recs (α := List UInt8) [] E_string a0.f_Keys, .tree (α := S_api_Node) (S_api_Node.mk 0 [] [] []) pre_S_api_Node kids_S_api_Node a0.f_Kids]), (4, 25, [.val (.int .i64 0), .str [], .val (.slice none 0 0), .val (.slice none 0 0)])]) (ob := []) (by kernel_rfl) AllP.nil ?_
  refine To.thenN ?_
  refine Wp.cond (b := (decide (r1 < 0))) (by kernel_rfl) (fun hb => ?_) (fun hb => ?_)
  · replace h := if_t hb h
    refine Wp.seq ?_
    refine Wp.region hΓ [] [] [] [4] [4] (K' := [(4, .own 4 0)]) (L' := [(4, 25, [.val (.int .i64 a0.f_Kind), .str a0.f_Text, .recs (α := List UInt8) [] E_string a0.f_Keys, .tree (α := S_api_Node) (S_api_Node.mk 0 [] [] []) pre_S_api_Node kids_S_api_Node a0.f_Kids])]) (ob := []) (by kernel_rfl) AllP.nil ?_
    refine To.thenN ?_
    refine Wp.ret ?_
    refine To.thenR ?_
    refine To.keep (kk := [4]) (kl := [4]) (K' := [(4, .own 4 0)]) (L' := [(4, 25, [.val (.int .i64 a0.f_Kind), .str a0.f_Text, .recs (α := List UInt8) [] E_string a0.f_Keys, .tree (α := S_api_Node) (S_api_Node.mk 0 [] [] []) pre_S_api_Node kids_S_api_Node a0.f_Kids])]) (by kernel_rfl) (by kernel_rfl) ?_
    cases h
    exact To.done hΓ (by kernel_rfl)
  · replace h := if_f hb h
    refine Wp.skip ?_
    refine To.thenN ?_
    refine Wp.seq ?_
    obtain ⟨hc4, h⟩ := chk_of h
    obtain ⟨hc5, h⟩ := chk_of h
    obtain ⟨r2, hr2, h⟩ := bind_of h
    obtain ⟨hc6, h⟩ := chk_of h
    obtain ⟨hc7, h⟩ := chk_of h
    obtain ⟨r3, hr3, h⟩ := bind_of h
    refine Wp.regionD hm hΓ [(9, .recs (α := List (List UInt8)) [] E_Lstring [(List.take (Int.toNat r1) a0.f_Keys), (List.drop (Int.toNat (IntKind.wrap .i64 (r1 + 1))) a0.f_Keys)]), (10, .recs (α := List UInt8) [] E_string r2), (20, .recs (α := List (S_api_Node)) [] E_Lapi_Node [(List.take (Int.toNat r1) a0.f_Kids), (List.drop (Int.toNat (IntKind.wrap .i64 (r1 + 1))) a0.f_Kids)]), (21, .recs (α := S_api_Node) (S_api_Node.mk 0 [] [] []) E_api_Node r3)] [4] [4] (K' := [(4, .own 4 0)]) (L' := [(4, 25, [.val (.int .i64 3), .str [], .recs (α := List UInt8) [] E_string r2, .recs (α := S_api_Node) (S_api_Node.mk 0 [] [] []) E_api_Node r3])]) (ob := [(decide (0 ≤ r1 ∧ r1 ≤ (List.length a0.f_Keys : Int))) = true, (decide (0 ≤ (IntKind.wrap .i64 (r1 + 1)) ∧ (IntKind.wrap .i64 (r1 + 1)) ≤ (List.length a0.f_Keys : Int))) = true, (true = true → MkOb 1 [.recs (α := List UInt8) [] E_string (List.take (Int.toNat r1) a0.f_Keys), .recs (α := List UInt8) [] E_string (List.drop (Int.toNat (IntKind.wrap .i64 (r1 + 1))) a0.f_Keys)] 2 (.recs (α := List (List UInt8)) [] E_Lstring [(List.take (Int.toNat r1) a0.f_Keys), (List.drop (Int.toNat (IntKind.wrap .i64 (r1 + 1))) a0.f_Keys)]) ∧ GoodR (.recs (α := List (List UInt8)) [] E_Lstring [(List.take (Int.toNat r1) a0.f_Keys), (List.drop (Int.toNat (IntKind.wrap .i64 (r1 + 1))) a0.f_Keys)])), (true = true → CX Try.prog 44 [.recs (α := List (List UInt8)) [] E_Lstring [(List.take (Int.toNat r1) a0.f_Keys), (List.drop (Int.toNat (IntKind.wrap .i64 (r1 + 1))) a0.f_Keys)]] (.recs (α := List UInt8) [] E_string r2)), (decide (0 ≤ r1 ∧ r1 ≤ (List.length a0.f_Kids : Int))) = true, (decide (0 ≤ (IntKind.wrap .i64 (r1 + 1)) ∧ (IntKind.wrap .i64 (r1 + 1)) ≤ (List.length a0.f_Kids : Int))) = true, (true = true → MkOb 1 [.recs (α := S_api_Node) (S_api_Node.mk 0 [] [] []) E_api_Node (List.take (Int.toNat r1) a0.f_Kids), .recs (α := S_api_Node) (S_api_Node.mk 0 [] [] []) E_api_Node (List.drop (Int.toNat (IntKind.wrap .i64 (r1 + 1))) a0.f_Kids)] 2 (.recs (α := List (S_api_Node)) [] E_Lapi_Node [(List.take (Int.toNat r1) a0.f_Kids), (List.drop (Int.toNat (IntKind.wrap .i64 (r1 + 1))) a0.f_Kids)]) ∧ GoodR (.recs (α := List (S_api_Node)) [] E_Lapi_Node [(List.take (Int.toNat r1) a0.f_Kids), (List.drop (Int.toNat (IntKind.wrap .i64 (r1 + 1))) a0.f_Kids)])), (true = true → CX Try.prog 45 [.recs (α := List (S_api_Node)) [] E_Lapi_Node [(List.take (Int.toNat r1) a0.f_Kids), (List.drop (Int.toNat (IntKind.wrap .i64 (r1 + 1))) a0.f_Kids)]] (.recs (α := S_api_Node) (S_api_Node.mk 0 [] [] []) E_api_Node r3))]) (by kernel_rfl) (AllP.cons hc4 (AllP.cons hc5 (AllP.cons (fun _ => mkOb (by kernel_rfl) rfl (by kernel_rfl) (good_E_Lstring _)) (AllP.cons (fun _ => cx (ok_slices_Concat_string_string n [(List.take (Int.toNat r1) a0.f_Keys), (List.drop (Int.toNat (IntKind.wrap .i64 (r1 + 1))) a0.f_Keys)] _ hr2)) (AllP.cons hc6 (AllP.cons hc7 (AllP.cons (fun _ => mkOb (by kernel_rfl) rfl (by kernel_rfl) (good_E_Lapi_Node _)) (AllP.cons (fun _ => cx (ok_slices_Concat_api_Node_api_Node n [(List.take (Int.toNat r1) a0.f_Kids), (List.drop (Int.toNat (IntKind.wrap .i64 (r1 + 1))) a0.f_Kids)] _ hr3)) AllP.nil)))))))) ?_
    refine To.thenN ?_
    refine Wp.ret ?_
    refine To.keep (kk := [4]) (kl := [4]) (K' := [(4, .own 4 0)]) (L' := [(4, 25, [.val (.int .i64 3), .str [], .recs (α := List UInt8) [] E_string r2, .recs (α := S_api_Node) (S_api_Node.mk 0 [] [] []) E_api_Node r3])]) (by kernel_rfl) (by kernel_rfl) ?_
    refine To.weak (K' := [(4, .own 4 0)]) (L' := [(4, 25, [.val (.int .i64 3), .str [], .recs (α := List UInt8) [] E_string r2, .tree (α := S_api_Node) (S_api_Node.mk 0 [] [] []) pre_S_api_Node kids_S_api_Node r3])]) (.cons (.refl _) .nil) (.cons (.cons (.refl _) (.cons (.refl _) (.cons (.refl _) (.cons (.close _ _ _ _) .nil)))) .nil) ?_
    cases h
    exact To.done hΓ (by kernel_rfl)
def ref08_Less_j2 (n : Nat) (v1 : List UInt8) (v6 : Int) (b2 : S_api_Node) (b4 : S_api_Node) (b5 : S_api_Node) : Option (S_api_Node) :=
  if (decide (0 ≤ v6 ∧ v6 < (List.length b2.f_Keys : Int))) = true then (if (!(((b2.f_Keys)[Int.toNat v6]?.getD []) == v1)) = true then (if (decide (0 ≤ v6 ∧ v6 < (List.length b2.f_Keys : Int))) = true then (if (decide ((List.length b5.f_Keys + List.length ([((b2.f_Keys)[Int.toNat v6]?.getD [])] : List (List UInt8))) * (16 + 1) ≤ limit)) = true then (if (decide (0 ≤ v6 ∧ v6 < (List.length b2.f_Kids : Int))) = true then (if (decide ((List.length b5.f_Kids + List.length ([(S_api_Node.mk (((b2.f_Kids)[Int.toNat v6]?.getD (S_api_Node.mk 0 [] [] [])).f_Kind) (((b2.f_Kids)[Int.toNat v6]?.getD (S_api_Node.mk 0 [] [] [])).f_Text) (((b2.f_Kids)[Int.toNat v6]?.getD (S_api_Node.mk 0 [] [] [])).f_Keys) (((b2.f_Kids)[Int.toNat v6]?.getD (S_api_Node.mk 0 [] [] [])).f_Kids))] : List (S_api_Node))) * (72 + 1) ≤ limit)) = true then (lett ((b5.f_Kids ++ ([(S_api_Node.mk (((b2.f_Kids)[Int.toNat v6]?.getD (S_api_Node.mk 0 [] [] [])).f_Kind) (((b2.f_Kids)[Int.toNat v6]?.getD (S_api_Node.mk 0 [] [] [])).f_Text) (((b2.f_Kids)[Int.toNat v6]?.getD (S_api_Node.mk 0 [] [] [])).f_Keys) (((b2.f_Kids)[Int.toNat v6]?.getD (S_api_Node.mk 0 [] [] [])).f_Kids))] : List (S_api_Node))) : List (S_api_Node)) fun x1 =>
  some (S_api_Node.mk b5.f_Kind b5.f_Text (b5.f_Keys ++ ([((b2.f_Keys)[Int.toNat v6]?.getD [])] : List (List UInt8))) x1)) else none) else none) else none) else none)
  else some b5) else none
theorem ok_ref08_Less_j2 (n : Nat) (v1 : List UInt8) (v6 : Int) (b2 : S_api_Node) (b4 : S_api_Node) (b5 : S_api_Node) (o : S_api_Node) (h : ref08_Less_j2 n v1 v6 b2 b4 b5 = some o) {F0 : Fz} {w0 : Pt Try.prog} {Q : Exit → Act → World → Prop} (hQ : To 47 F0 w0 [(1, .str v1), (2, .own 2 0), (4, .own 4 0), (5, .own 5 0), (6, .val (.int .i64 v6))] [(2, 25, [.val (.int .i64 b2.f_Kind), .str b2.f_Text, .recs (α := List UInt8) [] E_string b2.f_Keys, .tree (α := S_api_Node) (S_api_Node.mk 0 [] [] []) pre_S_api_Node kids_S_api_Node b2.f_Kids]), (4, 25, [.val (.int .i64 b4.f_Kind), .str b4.f_Text, .recs (α := List UInt8) [] E_string b4.f_Keys, .tree (α := S_api_Node) (S_api_Node.mk 0 [] [] []) pre_S_api_Node kids_S_api_Node b4.f_Kids]), (5, 25, [.val (.int .i64 o.f_Kind), .str o.f_Text, .row 4302, .row 4303]), (4302, 9, [.rowc false (α := List UInt8) [] E_string o.f_Keys]), (4303, 25, [.rowc false (α := S_api_Node) (S_api_Node.mk 0 [] [] []) E_api_Node o.f_Kids])] .normal Q) : Wp Try.prog 47 F0 w0 [(1, .str v1), (2, .own 2 0), (4, .own 4 0), (5, .own 5 0), (6, .val (.int .i64 v6))] [(2, 25, [.val (.int .i64 b2.f_Kind), .str b2.f_Text, .recs (α := List UInt8) [] E_string b2.f_Keys, .tree (α := S_api_Node) (S_api_Node.mk 0 [] [] []) pre_S_api_Node kids_S_api_Node b2.f_Kids]), (4, 25, [.val (.int .i64 b4.f_Kind), .str b4.f_Text, .recs (α := List UInt8) [] E_string b4.f_Keys, .tree (α := S_api_Node) (S_api_Node.mk 0 [] [] []) pre_S_api_Node kids_S_api_Node b4.f_Kids]), (5, 25, [.val (.int .i64 b5.f_Kind), .str b5.f_Text, .row 4302, .row 4303]), (4302, 9, [.rowc false (α := List UInt8) [] E_string b5.f_Keys]), (4303, 25, [.rowc false (α := S_api_Node) (S_api_Node.mk 0 [] [] []) E_api_Node b5.f_Kids])] (cA (cB (cI (cI (cB (cA (cB (cB (cB (cF Try.f26)))))))))) Q := by
  unfold ref08_Less_j2 at h
  refine Wp.block ?_
  refine Wp.seq ?_
  obtain ⟨hc6, h⟩ := chk_of h
  refine Wp.region hΓ [] [] [] [1, 2, 4, 5, 6, 25] [2, 4, 5, 4302, 4303] (K' := [(1, .str v1), (2, .own 2 0), (4, .own 4 0), (5, .own 5 0), (6, .val (.int .i64 v6)), (25, .val (.bool (!(((b2.f_Keys)[Int.toNat v6]?.getD []) == v1))))]) (L' := [(2, 25, [.val (.int .i64 b2.f_Kind), .str b2.f_Text, .recs (α := List UInt8) [] E_string b2.f_Keys, .tree (α := S_api_Node) (S_api_Node.mk 0 [] [] []) pre_S_api_Node kids_S_api_Node b2.f_Kids]), (4, 25, [.val (.int .i64 b4.f_Kind), .str b4.f_Text, .recs (α := List UInt8) [] E_string b4.f_Keys, .tree (α := S_api_Node) (S_api_Node.mk 0 [] [] []) pre_S_api_Node kids_S_api_Node b4.f_Kids]), (5, 25, [.val (.int .i64 b5.f_Kind), .str b5.f_Text, .row 4302, .row 4303]), (4302, 9, [.rowc false (α := List UInt8) [] E_string b5.f_Keys]), (4303, 25, [.rowc false (α := S_api_Node) (S_api_Node.mk 0 [] [] []) E_api_Node b5.f_Kids])]) (ob := [(decide (0 ≤ v6 ∧ v6 < (List.length b2.f_Keys : Int))) = true]) (by kernel_rfl) (AllP.cons hc6 AllP.nil) ?_
  refine To.thenN ?_
  refine Wp.cond (b := (!(((b2.f_Keys)[Int.toNat v6]?.getD []) == v1))) (by kernel_rfl) (fun hb => ?_) (fun hb => ?_)
  · replace h := if_t hb h
    refine Wp.seq ?_
    obtain ⟨hc4, h⟩ := chk_of h
    obtain ⟨hc5, h⟩ := chk_of h
    refine Wp.regionD hm hΓ [(7, .recs (α := List UInt8) [] E_string ([((b2.f_Keys)[Int.toNat v6]?.getD [])])), (8, .row 34), (1008, .recs (α := List UInt8) [] E_string (b5.f_Keys ++ ([((b2.f_Keys)[Int.toNat v6]?.getD [])] : List (List UInt8))))] [1, 2, 4, 5, 6] [2, 4, 5, 34, 4303] (K' := [(1, .str v1), (2, .own 2 0), (4, .own 4 0), (5, .own 5 0), (6, .val (.int .i64 v6))]) (L' := [(2, 25, [.val (.int .i64 b2.f_Kind), .str b2.f_Text, .recs (α := List UInt8) [] E_string b2.f_Keys, .tree (α := S_api_Node) (S_api_Node.mk 0 [] [] []) pre_S_api_Node kids_S_api_Node b2.f_Kids]), (4, 25, [.val (.int .i64 b4.f_Kind), .str b4.f_Text, .recs (α := List UInt8) [] E_string b4.f_Keys, .tree (α := S_api_Node) (S_api_Node.mk 0 [] [] []) pre_S_api_Node kids_S_api_Node b4.f_Kids]), (5, 25, [.val (.int .i64 b5.f_Kind), .str b5.f_Text, .row 34, .row 4303]), (34, 9, [.rowc false (α := List UInt8) [] E_string (b5.f_Keys ++ ([((b2.f_Keys)[Int.toNat v6]?.getD [])] : List (List UInt8)))]), (4303, 25, [.rowc false (α := S_api_Node) (S_api_Node.mk 0 [] [] []) E_api_Node b5.f_Kids])]) (ob := [(decide (0 ≤ v6 ∧ v6 < (List.length b2.f_Keys : Int))) = true, (true = true → MkOb 1 [.str ((b2.f_Keys)[Int.toNat v6]?.getD [])] 1 (.recs (α := List UInt8) [] E_string ([((b2.f_Keys)[Int.toNat v6]?.getD [])])) ∧ GoodR (.recs (α := List UInt8) [] E_string ([((b2.f_Keys)[Int.toNat v6]?.getD [])]))), (decide ((List.length b5.f_Keys + List.length ([((b2.f_Keys)[Int.toNat v6]?.getD [])] : List (List UInt8))) * (16 + 1) ≤ limit)) = true, (AppOb [] E_string b5.f_Keys (List.flatMap E_string ([((b2.f_Keys)[Int.toNat v6]?.getD [])] : List (List UInt8))) (List.length ([((b2.f_Keys)[Int.toNat v6]?.getD [])] : List (List UInt8))) (.recs (α := List UInt8) [] E_string (b5.f_Keys ++ ([((b2.f_Keys)[Int.toNat v6]?.getD [])] : List (List UInt8)))) ∧ GoodR (.recs (α := List UInt8) [] E_string (b5.f_Keys ++ ([((b2.f_Keys)[Int.toNat v6]?.getD [])] : List (List UInt8)))))]) (by kernel_rfl) (AllP.cons hc4 (AllP.cons (fun _ => mkOb (by kernel_rfl) rfl (by kernel_rfl) (good_E_string _)) (AllP.cons hc5 (AllP.cons (appOb rfl rfl (good_E_string _)) AllP.nil)))) ?_
    refine To.thenN ?_
    obtain ⟨hc2, h⟩ := chk_of h
    obtain ⟨hc3, h⟩ := chk_of h
    obtain ⟨x1, hx1, h⟩ := lett_of h
    refine Wp.regionD hm hΓ [(7, .recs (α := S_api_Node) (S_api_Node.mk 0 [] [] []) E_api_Node ([(S_api_Node.mk (((b2.f_Kids)[Int.toNat v6]?.getD (S_api_Node.mk 0 [] [] [])).f_Kind) (((b2.f_Kids)[Int.toNat v6]?.getD (S_api_Node.mk 0 [] [] [])).f_Text) (((b2.f_Kids)[Int.toNat v6]?.getD (S_api_Node.mk 0 [] [] [])).f_Keys) (((b2.f_Kids)[Int.toNat v6]?.getD (S_api_Node.mk 0 [] [] [])).f_Kids))])), (8, .row 44), (1008, .recs (α := S_api_Node) (S_api_Node.mk 0 [] [] []) E_api_Node (b5.f_Kids ++ ([(S_api_Node.mk (((b2.f_Kids)[Int.toNat v6]?.getD (S_api_Node.mk 0 [] [] [])).f_Kind) (((b2.f_Kids)[Int.toNat v6]?.getD (S_api_Node.mk 0 [] [] [])).f_Text) (((b2.f_Kids)[Int.toNat v6]?.getD (S_api_Node.mk 0 [] [] [])).f_Keys) (((b2.f_Kids)[Int.toNat v6]?.getD (S_api_Node.mk 0 [] [] [])).f_Kids))] : List (S_api_Node))))] [1, 2, 4, 5, 6] [2, 4, 5, 34, 44] (K' := [(1, .str v1), (2, .own 2 0), (4, .own 4 0), (5, .own 5 0), (6, .val (.int .i64 v6))]) (L' := [(2, 25, [.val (.int .i64 b2.f_Kind), .str b2.f_Text, .recs (α := List UInt8) [] E_string b2.f_Keys, .tree (α := S_api_Node) (S_api_Node.mk 0 [] [] []) pre_S_api_Node kids_S_api_Node b2.f_Kids]), (4, 25, [.val (.int .i64 b4.f_Kind), .str b4.f_Text, .recs (α := List UInt8) [] E_string b4.f_Keys, .tree (α := S_api_Node) (S_api_Node.mk 0 [] [] []) pre_S_api_Node kids_S_api_Node b4.f_Kids]), (5, 25, [.val (.int .i64 b5.f_Kind), .str b5.f_Text, .row 34, .row 44]), (34, 9, [.rowc false (α := List UInt8) [] E_string (b5.f_Keys ++ ([((b2.f_Keys)[Int.toNat v6]?.getD [])] : List (List UInt8)))]), (44, 25, [.rowc false (α := S_api_Node) (S_api_Node.mk 0 [] [] []) E_api_Node (b5.f_Kids ++ ([(S_api_Node.mk (((b2.f_Kids)[Int.toNat v6]?.getD (S_api_Node.mk 0 [] [] [])).f_Kind) (((b2.f_Kids)[Int.toNat v6]?.getD (S_api_Node.mk 0 [] [] [])).f_Text) (((b2.f_Kids)[Int.toNat v6]?.getD (S_api_Node.mk 0 [] [] [])).f_Keys) (((b2.f_Kids)[Int.toNat v6]?.getD (S_api_Node.mk 0 [] [] [])).f_Kids))] : List (S_api_Node)))])]) (ob := [(decide (0 ≤ v6 ∧ v6 < (List.length b2.f_Kids : Int))) = true, (true = true → MkOb 4 [.val (.int .i64 (((b2.f_Kids)[Int.toNat v6]?.getD (S_api_Node.mk 0 [] [] [])).f_Kind)), .str (((b2.f_Kids)[Int.toNat v6]?.getD (S_api_Node.mk 0 [] [] [])).f_Text), .recs (α := List UInt8) [] E_string (((b2.f_Kids)[Int.toNat v6]?.getD (S_api_Node.mk 0 [] [] [])).f_Keys), .tree (α := S_api_Node) (S_api_Node.mk 0 [] [] []) pre_S_api_Node kids_S_api_Node (((b2.f_Kids)[Int.toNat v6]?.getD (S_api_Node.mk 0 [] [] [])).f_Kids)] 1 (.recs (α := S_api_Node) (S_api_Node.mk 0 [] [] []) E_api_Node ([(S_api_Node.mk (((b2.f_Kids)[Int.toNat v6]?.getD (S_api_Node.mk 0 [] [] [])).f_Kind) (((b2.f_Kids)[Int.toNat v6]?.getD (S_api_Node.mk 0 [] [] [])).f_Text) (((b2.f_Kids)[Int.toNat v6]?.getD (S_api_Node.mk 0 [] [] [])).f_Keys) (((b2.f_Kids)[Int.toNat v6]?.getD (S_api_Node.mk 0 [] [] [])).f_Kids))])) ∧ GoodR (.recs (α := S_api_Node) (S_api_Node.mk 0 [] [] []) E_api_Node ([(S_api_Node.mk (((b2.f_Kids)[Int.toNat v6]?.getD (S_api_Node.mk 0 [] [] [])).f_Kind) (((b2.f_Kids)[Int.toNat v6]?.getD (S_api_Node.mk 0 [] [] [])).f_Text) (((b2.f_Kids)[Int.toNat v6]?.getD (S_api_Node.mk 0 [] [] [])).f_Keys) (((b2.f_Kids)[Int.toNat v6]?.getD (S_api_Node.mk 0 [] [] [])).f_Kids))]))), (decide ((List.length b5.f_Kids + List.length ([(S_api_Node.mk (((b2.f_Kids)[Int.toNat v6]?.getD (S_api_Node.mk 0 [] [] [])).f_Kind) (((b2.f_Kids)[Int.toNat v6]?.getD (S_api_Node.mk 0 [] [] [])).f_Text) (((b2.f_Kids)[Int.toNat v6]?.getD (S_api_Node.mk 0 [] [] [])).f_Keys) (((b2.f_Kids)[Int.toNat v6]?.getD (S_api_Node.mk 0 [] [] [])).f_Kids))] : List (S_api_Node))) * (72 + 1) ≤ limit)) = true, (AppOb (S_api_Node.mk 0 [] [] []) E_api_Node b5.f_Kids (List.flatMap E_api_Node ([(S_api_Node.mk (((b2.f_Kids)[Int.toNat v6]?.getD (S_api_Node.mk 0 [] [] [])).f_Kind) (((b2.f_Kids)[Int.toNat v6]?.getD (S_api_Node.mk 0 [] [] [])).f_Text) (((b2.f_Kids)[Int.toNat v6]?.getD (S_api_Node.mk 0 [] [] [])).f_Keys) (((b2.f_Kids)[Int.toNat v6]?.getD (S_api_Node.mk 0 [] [] [])).f_Kids))] : List (S_api_Node))) (List.length ([(S_api_Node.mk (((b2.f_Kids)[Int.toNat v6]?.getD (S_api_Node.mk 0 [] [] [])).f_Kind) (((b2.f_Kids)[Int.toNat v6]?.getD (S_api_Node.mk 0 [] [] [])).f_Text) (((b2.f_Kids)[Int.toNat v6]?.getD (S_api_Node.mk 0 [] [] [])).f_Keys) (((b2.f_Kids)[Int.toNat v6]?.getD (S_api_Node.mk 0 [] [] [])).f_Kids))] : List (S_api_Node))) (.recs (α := S_api_Node) (S_api_Node.mk 0 [] [] []) E_api_Node (b5.f_Kids ++ ([(S_api_Node.mk (((b2.f_Kids)[Int.toNat v6]?.getD (S_api_Node.mk 0 [] [] [])).f_Kind) (((b2.f_Kids)[Int.toNat v6]?.getD (S_api_Node.mk 0 [] [] [])).f_Text) (((b2.f_Kids)[Int.toNat v6]?.getD (S_api_Node.mk 0 [] [] [])).f_Keys) (((b2.f_Kids)[Int.toNat v6]?.getD (S_api_Node.mk 0 [] [] [])).f_Kids))] : List (S_api_Node)))) ∧ GoodR (.recs (α := S_api_Node) (S_api_Node.mk 0 [] [] []) E_api_Node (b5.f_Kids ++ ([(S_api_Node.mk (((b2.f_Kids)[Int.toNat v6]?.getD (S_api_Node.mk 0 [] [] [])).f_Kind) (((b2.f_Kids)[Int.toNat v6]?.getD (S_api_Node.mk 0 [] [] [])).f_Text) (((b2.f_Kids)[Int.toNat v6]?.getD (S_api_Node.mk 0 [] [] [])).f_Keys) (((b2.f_Kids)[Int.toNat v6]?.getD (S_api_Node.mk 0 [] [] [])).f_Kids))] : List (S_api_Node)))))]) (by kernel_rfl) (AllP.cons hc2 (AllP.cons (fun _ => mkOb (by kernel_rfl) rfl (by kernel_rfl) (good_E_api_Node _)) (AllP.cons hc3 (AllP.cons (appOb rfl rfl (good_E_api_Node _)) AllP.nil)))) ?_
    refine To.eq (K' := [(1, .str v1), (2, .own 2 0), (4, .own 4 0), (5, .own 5 0), (6, .val (.int .i64 v6))]) (L' := [(2, 25, [.val (.int .i64 b2.f_Kind), .str b2.f_Text, .recs (α := List UInt8) [] E_string b2.f_Keys, .tree (α := S_api_Node) (S_api_Node.mk 0 [] [] []) pre_S_api_Node kids_S_api_Node b2.f_Kids]), (4, 25, [.val (.int .i64 b4.f_Kind), .str b4.f_Text, .recs (α := List UInt8) [] E_string b4.f_Keys, .tree (α := S_api_Node) (S_api_Node.mk 0 [] [] []) pre_S_api_Node kids_S_api_Node b4.f_Kids]), (5, 25, [.val (.int .i64 b5.f_Kind), .str b5.f_Text, .row 34, .row 44]), (34, 9, [.rowc false (α := List UInt8) [] E_string (b5.f_Keys ++ ([((b2.f_Keys)[Int.toNat v6]?.getD [])] : List (List UInt8)))]), (44, 25, [.rowc false (α := S_api_Node) (S_api_Node.mk 0 [] [] []) E_api_Node x1])]) (by cases hx1; rfl) (by cases hx1; rfl) ?_
    refine To.blockN ?_
    refine To.keep (kk := [1, 2, 4, 5, 6]) (kl := [2, 4, 5, 34, 44]) (K' := [(1, .str v1), (2, .own 2 0), (4, .own 4 0), (5, .own 5 0), (6, .val (.int .i64 v6))]) (L' := [(2, 25, [.val (.int .i64 b2.f_Kind), .str b2.f_Text, .recs (α := List UInt8) [] E_string b2.f_Keys, .tree (α := S_api_Node) (S_api_Node.mk 0 [] [] []) pre_S_api_Node kids_S_api_Node b2.f_Kids]), (4, 25, [.val (.int .i64 b4.f_Kind), .str b4.f_Text, .recs (α := List UInt8) [] E_string b4.f_Keys, .tree (α := S_api_Node) (S_api_Node.mk 0 [] [] []) pre_S_api_Node kids_S_api_Node b4.f_Kids]), (5, 25, [.val (.int .i64 b5.f_Kind), .str b5.f_Text, .row 34, .row 44]), (34, 9, [.rowc false (α := List UInt8) [] E_string (b5.f_Keys ++ ([((b2.f_Keys)[Int.toNat v6]?.getD [])] : List (List UInt8)))]), (44, 25, [.rowc false (α := S_api_Node) (S_api_Node.mk 0 [] [] []) E_api_Node x1])]) (by kernel_rfl) (by kernel_rfl) ?_
    refine To.pre (St.rename 34 4302 (by decide) (K' := [(1, .str v1), (2, .own 2 0), (4, .own 4 0), (5, .own 5 0), (6, .val (.int .i64 v6))]) (L' := [(2, 25, [.val (.int .i64 b2.f_Kind), .str b2.f_Text, .recs (α := List UInt8) [] E_string b2.f_Keys, .tree (α := S_api_Node) (S_api_Node.mk 0 [] [] []) pre_S_api_Node kids_S_api_Node b2.f_Kids]), (4, 25, [.val (.int .i64 b4.f_Kind), .str b4.f_Text, .recs (α := List UInt8) [] E_string b4.f_Keys, .tree (α := S_api_Node) (S_api_Node.mk 0 [] [] []) pre_S_api_Node kids_S_api_Node b4.f_Kids]), (5, 25, [.val (.int .i64 b5.f_Kind), .str b5.f_Text, .row 4302, .row 44]), (4302, 9, [.rowc false (α := List UInt8) [] E_string (b5.f_Keys ++ ([((b2.f_Keys)[Int.toNat v6]?.getD [])] : List (List UInt8)))]), (44, 25, [.rowc false (α := S_api_Node) (S_api_Node.mk 0 [] [] []) E_api_Node x1])]) (by kernel_rfl) (by kernel_rfl) (by kernel_rfl)) ?_
    refine To.keep (kk := [1, 2, 4, 5, 6]) (kl := [2, 4, 5, 44, 4302]) (K' := [(1, .str v1), (2, .own 2 0), (4, .own 4 0), (5, .own 5 0), (6, .val (.int .i64 v6))]) (L' := [(2, 25, [.val (.int .i64 b2.f_Kind), .str b2.f_Text, .recs (α := List UInt8) [] E_string b2.f_Keys, .tree (α := S_api_Node) (S_api_Node.mk 0 [] [] []) pre_S_api_Node kids_S_api_Node b2.f_Kids]), (4, 25, [.val (.int .i64 b4.f_Kind), .str b4.f_Text, .recs (α := List UInt8) [] E_string b4.f_Keys, .tree (α := S_api_Node) (S_api_Node.mk 0 [] [] []) pre_S_api_Node kids_S_api_Node b4.f_Kids]), (5, 25, [.val (.int .i64 b5.f_Kind), .str b5.f_Text, .row 4302, .row 44]), (44, 25, [.rowc false (α := S_api_Node) (S_api_Node.mk 0 [] [] []) E_api_Node x1]), (4302, 9, [.rowc false (α := List UInt8) [] E_string (b5.f_Keys ++ ([((b2.f_Keys)[Int.toNat v6]?.getD [])] : List (List UInt8)))])]) (by kernel_rfl) (by kernel_rfl) ?_
    refine To.pre (St.rename 44 4303 (by decide) (K' := [(1, .str v1), (2, .own 2 0), (4, .own 4 0), (5, .own 5 0), (6, .val (.int .i64 v6))]) (L' := [(2, 25, [.val (.int .i64 b2.f_Kind), .str b2.f_Text, .recs (α := List UInt8) [] E_string b2.f_Keys, .tree (α := S_api_Node) (S_api_Node.mk 0 [] [] []) pre_S_api_Node kids_S_api_Node b2.f_Kids]), (4, 25, [.val (.int .i64 b4.f_Kind), .str b4.f_Text, .recs (α := List UInt8) [] E_string b4.f_Keys, .tree (α := S_api_Node) (S_api_Node.mk 0 [] [] []) pre_S_api_Node kids_S_api_Node b4.f_Kids]), (5, 25, [.val (.int .i64 b5.f_Kind), .str b5.f_Text, .row 4302, .row 4303]), (4303, 25, [.rowc false (α := S_api_Node) (S_api_Node.mk 0 [] [] []) E_api_Node x1]), (4302, 9, [.rowc false (α := List UInt8) [] E_string (b5.f_Keys ++ ([((b2.f_Keys)[Int.toNat v6]?.getD [])] : List (List UInt8)))])]) (by kernel_rfl) (by kernel_rfl) (by kernel_rfl)) ?_
    refine To.keep (kk := [1, 2, 4, 5, 6]) (kl := [2, 4, 5, 4302, 4303]) (K' := [(1, .str v1), (2, .own 2 0), (4, .own 4 0), (5, .own 5 0), (6, .val (.int .i64 v6))]) (L' := [(2, 25, [.val (.int .i64 b2.f_Kind), .str b2.f_Text, .recs (α := List UInt8) [] E_string b2.f_Keys, .tree (α := S_api_Node) (S_api_Node.mk 0 [] [] []) pre_S_api_Node kids_S_api_Node b2.f_Kids]), (4, 25, [.val (.int .i64 b4.f_Kind), .str b4.f_Text, .recs (α := List UInt8) [] E_string b4.f_Keys, .tree (α := S_api_Node) (S_api_Node.mk 0 [] [] []) pre_S_api_Node kids_S_api_Node b4.f_Kids]), (5, 25, [.val (.int .i64 b5.f_Kind), .str b5.f_Text, .row 4302, .row 4303]), (4302, 9, [.rowc false (α := List UInt8) [] E_string (b5.f_Keys ++ ([((b2.f_Keys)[Int.toNat v6]?.getD [])] : List (List UInt8)))]), (4303, 25, [.rowc false (α := S_api_Node) (S_api_Node.mk 0 [] [] []) E_api_Node x1])]) (by kernel_rfl) (by kernel_rfl) ?_
    cases h
    exact hQ
  · replace h := if_f hb h
    refine Wp.skip ?_
    refine To.blockN ?_
    refine To.keep (kk := [1, 2, 4, 5, 6]) (kl := [2, 4, 5, 4302, 4303]) (K' := [(1, .str v1), (2, .own 2 0), (4, .own 4 0), (5, .own 5 0), (6, .val (.int .i64 v6))]) (L' := [(2, 25, [.val (.int .i64 b2.f_Kind), .str b2.f_Text, .recs (α := List UInt8) [] E_string b2.f_Keys, .tree (α := S_api_Node) (S_api_Node.mk 0 [] [] []) pre_S_api_Node kids_S_api_Node b2.f_Kids]), (4, 25, [.val (.int .i64 b4.f_Kind), .str b4.f_Text, .recs (α := List UInt8) [] E_string b4.f_Keys, .tree (α := S_api_Node) (S_api_Node.mk 0 [] [] []) pre_S_api_Node kids_S_api_Node b4.f_Kids]), (5, 25, [.val (.int .i64 b5.f_Kind), .str b5.f_Text, .row 4302, .row 4303]), (4302, 9, [.rowc false (α := List UInt8) [] E_string b5.f_Keys]), (4303, 25, [.rowc false (α := S_api_Node) (S_api_Node.mk 0 [] [] []) E_api_Node b5.f_Kids])]) (by kernel_rfl) (by kernel_rfl) ?_
    cases h
    exact hQ
def ref08_Less_l1 (n : Nat) (v1 : List UInt8) (b2 : S_api_Node) (b4 : S_api_Node) : Nat → Int → S_api_Node → Option (S_api_Node)
  | 0, _, _ => none
  | k + 1, v6, b5 => if (decide (v6 < (List.length b2.f_Keys : Int))) = true then ((ref08_Less_j2 n v1 v6 b2 b4 b5).bind fun o1 =>
  ref08_Less_l1 n v1 b2 b4 k (IntKind.wrap .i64 (v6 + 1)) o1)
  else some b5
theorem ok_ref08_Less_l1 (n : Nat) (v1 : List UInt8) (b2 : S_api_Node) (b4 : S_api_Node) {F0 : Fz} {w0 : Pt Try.prog} {Q : Exit → Act → World → Prop} (k : Nat) : ∀ (v6 : Int) (b5 : S_api_Node) (o : S_api_Node), ref08_Less_l1 n v1 b2 b4 k v6 b5 = some o → To 47 F0 w0 [(4, .own 4 0), (5, .own 5 0)] [(4, 25, [.val (.int .i64 b4.f_Kind), .str b4.f_Text, .recs (α := List UInt8) [] E_string b4.f_Keys, .tree (α := S_api_Node) (S_api_Node.mk 0 [] [] []) pre_S_api_Node kids_S_api_Node b4.f_Kids]), (5, 25, [.val (.int .i64 o.f_Kind), .str o.f_Text, .row 4302, .row 4303]), (4302, 9, [.rowc false (α := List UInt8) [] E_string o.f_Keys]), (4303, 25, [.rowc false (α := S_api_Node) (S_api_Node.mk 0 [] [] []) E_api_Node o.f_Kids])] (.exit 0) Q → WL Try.prog 47 F0 w0 [(1, .str v1), (2, .own 2 0), (4, .own 4 0), (5, .own 5 0), (6, .val (.int .i64 v6))] [(2, 25, [.val (.int .i64 b2.f_Kind), .str b2.f_Text, .recs (α := List UInt8) [] E_string b2.f_Keys, .tree (α := S_api_Node) (S_api_Node.mk 0 [] [] []) pre_S_api_Node kids_S_api_Node b2.f_Kids]), (4, 25, [.val (.int .i64 b4.f_Kind), .str b4.f_Text, .recs (α := List UInt8) [] E_string b4.f_Keys, .tree (α := S_api_Node) (S_api_Node.mk 0 [] [] []) pre_S_api_Node kids_S_api_Node b4.f_Kids]), (5, 25, [.val (.int .i64 b5.f_Kind), .str b5.f_Text, .row 4302, .row 4303]), (4302, 9, [.rowc false (α := List UInt8) [] E_string b5.f_Keys]), (4303, 25, [.rowc false (α := S_api_Node) (S_api_Node.mk 0 [] [] []) E_api_Node b5.f_Kids])] (cI (cI (cB (cA (cB (cB (cB (cF Try.f26)))))))) Q := by
  induction k with
  | zero => intro v6 b5 o h; cases h
  | succ k ih =>
    intro v6 b5 o h hQ
    rw [ref08_Less_l1] at h
    refine WL.round ?_
    refine Wp.seq ?_
    refine Wp.seq ?_
    refine Wp.region hΓ [] [] [] [1, 2, 4, 5, 6, 16] [2, 4, 5, 4302, 4303] (K' := [(1, .str v1), (2, .own 2 0), (4, .own 4 0), (5, .own 5 0), (6, .val (.int .i64 v6)), (16, .val (.bool (decide (v6 < (List.length b2.f_Keys : Int)))))]) (L' := [(2, 25, [.val (.int .i64 b2.f_Kind), .str b2.f_Text, .recs (α := List UInt8) [] E_string b2.f_Keys, .tree (α := S_api_Node) (S_api_Node.mk 0 [] [] []) pre_S_api_Node kids_S_api_Node b2.f_Kids]), (4, 25, [.val (.int .i64 b4.f_Kind), .str b4.f_Text, .recs (α := List UInt8) [] E_string b4.f_Keys, .tree (α := S_api_Node) (S_api_Node.mk 0 [] [] []) pre_S_api_Node kids_S_api_Node b4.f_Kids]), (5, 25, [.val (.int .i64 b5.f_Kind), .str b5.f_Text, .row 4302, .row 4303]), (4302, 9, [.rowc false (α := List UInt8) [] E_string b5.f_Keys]), (4303, 25, [.rowc false (α := S_api_Node) (S_api_Node.mk 0 [] [] []) E_api_Node b5.f_Kids])]) (ob := []) (by kernel_rfl) AllP.nil ?_
    refine To.thenN ?_
    refine Wp.cond (b := (decide (v6 < (List.length b2.f_Keys : Int)))) (by kernel_rfl) (fun hb => ?_) (fun hb => ?_)
    · replace h := if_t hb h
      refine Wp.skip ?_
      refine To.thenN ?_
      refine Wp.seq ?_
      obtain ⟨o1, ho1, h⟩ := bind_of h
      refine Wp.keep (kk := [1, 2, 4, 5, 6]) (kl := [2, 4, 5, 4302, 4303]) (K' := [(1, .str v1), (2, .own 2 0), (4, .own 4 0), (5, .own 5 0), (6, .val (.int .i64 v6))]) (L' := [(2, 25, [.val (.int .i64 b2.f_Kind), .str b2.f_Text, .recs (α := List UInt8) [] E_string b2.f_Keys, .tree (α := S_api_Node) (S_api_Node.mk 0 [] [] []) pre_S_api_Node kids_S_api_Node b2.f_Kids]), (4, 25, [.val (.int .i64 b4.f_Kind), .str b4.f_Text, .recs (α := List UInt8) [] E_string b4.f_Keys, .tree (α := S_api_Node) (S_api_Node.mk 0 [] [] []) pre_S_api_Node kids_S_api_Node b4.f_Kids]), (5, 25, [.val (.int .i64 b5.f_Kind), .str b5.f_Text, .row 4302, .row 4303]), (4302, 9, [.rowc false (α := List UInt8) [] E_string b5.f_Keys]), (4303, 25, [.rowc false (α := S_api_Node) (S_api_Node.mk 0 [] [] []) E_api_Node b5.f_Kids])]) (by kernel_rfl) (by kernel_rfl) ?_
      refine ok_ref08_Less_j2 n v1 v6 b2 b4 b5 o1 ho1 ?_
      refine To.thenN ?_
      refine Wp.region hΓ [] [] [] [1, 2, 4, 5, 6] [2, 4, 5, 4302, 4303] (K' := [(1, .str v1), (2, .own 2 0), (4, .own 4 0), (5, .own 5 0), (6, .val (.int .i64 (IntKind.wrap .i64 (v6 + 1))))]) (L' := [(2, 25, [.val (.int .i64 b2.f_Kind), .str b2.f_Text, .recs (α := List UInt8) [] E_string b2.f_Keys, .tree (α := S_api_Node) (S_api_Node.mk 0 [] [] []) pre_S_api_Node kids_S_api_Node b2.f_Kids]), (4, 25, [.val (.int .i64 b4.f_Kind), .str b4.f_Text, .recs (α := List UInt8) [] E_string b4.f_Keys, .tree (α := S_api_Node) (S_api_Node.mk 0 [] [] []) pre_S_api_Node kids_S_api_Node b4.f_Kids]), (5, 25, [.val (.int .i64 o1.f_Kind), .str o1.f_Text, .row 4302, .row 4303]), (4302, 9, [.rowc false (α := List UInt8) [] E_string o1.f_Keys]), (4303, 25, [.rowc false (α := S_api_Node) (S_api_Node.mk 0 [] [] []) E_api_Node o1.f_Kids])]) (ob := []) (by kernel_rfl) AllP.nil ?_
      refine To.keep (kk := [1, 2, 4, 5, 6]) (kl := [2, 4, 5, 4302, 4303]) (K' := [(1, .str v1), (2, .own 2 0), (4, .own 4 0), (5, .own 5 0), (6, .val (.int .i64 (IntKind.wrap .i64 (v6 + 1))))]) (L' := [(2, 25, [.val (.int .i64 b2.f_Kind), .str b2.f_Text, .recs (α := List UInt8) [] E_string b2.f_Keys, .tree (α := S_api_Node) (S_api_Node.mk 0 [] [] []) pre_S_api_Node kids_S_api_Node b2.f_Kids]), (4, 25, [.val (.int .i64 b4.f_Kind), .str b4.f_Text, .recs (α := List UInt8) [] E_string b4.f_Keys, .tree (α := S_api_Node) (S_api_Node.mk 0 [] [] []) pre_S_api_Node kids_S_api_Node b4.f_Kids]), (5, 25, [.val (.int .i64 o1.f_Kind), .str o1.f_Text, .row 4302, .row 4303]), (4302, 9, [.rowc false (α := List UInt8) [] E_string o1.f_Keys]), (4303, 25, [.rowc false (α := S_api_Node) (S_api_Node.mk 0 [] [] []) E_api_Node o1.f_Kids])]) (by kernel_rfl) (by kernel_rfl) ?_
      refine To.again ?_
      exact ih (IntKind.wrap .i64 (v6 + 1)) o1 _ h hQ
    · replace h := if_f hb h
      refine Wp.exit ?_
      refine To.thenX ?_
      refine To.thenX ?_
      refine To.keep (kk := [4, 5]) (kl := [4, 5, 4302, 4303]) (K' := [(4, .own 4 0), (5, .own 5 0)]) (L' := [(4, 25, [.val (.int .i64 b4.f_Kind), .str b4.f_Text, .recs (α := List UInt8) [] E_string b4.f_Keys, .tree (α := S_api_Node) (S_api_Node.mk 0 [] [] []) pre_S_api_Node kids_S_api_Node b4.f_Kids]), (5, 25, [.val (.int .i64 b5.f_Kind), .str b5.f_Text, .row 4302, .row 4303]), (4302, 9, [.rowc false (α := List UInt8) [] E_string b5.f_Keys]), (4303, 25, [.rowc false (α := S_api_Node) (S_api_Node.mk 0 [] [] []) E_api_Node b5.f_Kids])]) (by kernel_rfl) (by kernel_rfl) ?_
      cases h
      exact hQ
def ref08_Less (n : Nat) (a0 : S_api_Node) (a1 : List UInt8) : Option (S_api_Node) :=
  if (a0.f_Kind != 3) = true then some a0
  else ((ref08_Less_l1 n a1 a0 (S_api_Node.mk 0 [] [] []) n 0 (S_api_Node.mk 3 [] [] [])).bind fun o1 =>
  some o1)
theorem ok_ref08_Less (n : Nat) (a0 : S_api_Node) (a1 : List UInt8) (r : S_api_Node) (h : ref08_Less n a0 a1 = some r) : CallsX Try.prog 26 [.agg [.val (.int .i64 a0.f_Kind), .str a0.f_Text, .recs (α := List UInt8) [] E_string a0.f_Keys, .tree (α := S_api_Node) (S_api_Node.mk 0 [] [] []) pre_S_api_Node kids_S_api_Node a0.f_Kids], .str a1] (.agg [.val (.int .i64 r.f_Kind), .str r.f_Text, .recs (α := List UInt8) [] E_string r.f_Keys, .tree (α := S_api_Node) (S_api_Node.mk 0 [] [] []) pre_S_api_Node kids_S_api_Node r.f_Kids]) := by
  unfold ref08_Less at h
  refine callsX_of (fn := Try.f26) (by kernel_rfl) rfl (by kernel_rfl) (Nat.le_of_ble_eq_true (by kernel_rfl)) fun F0 w0 _ => ?_
  refine Wp.keep (kk := [0, 1]) (kl := []) (K' := [(0, .agg [.val (.int .i64 a0.f_Kind), .str a0.f_Text, .recs (α := List UInt8) [] E_string a0.f_Keys, .tree (α := S_api_Node) (S_api_Node.mk 0 [] [] []) pre_S_api_Node kids_S_api_Node a0.f_Kids]), (1, .str a1)]) (L' := []) (by kernel_rfl) (by kernel_rfl) ?_
  refine Wp.seq ?_
  refine Wp.region hΓ [] [] [] [1, 2, 4] [2, 4] (K' := [(1, .str a1), (2, .own 2 0), (4, .own 4 0)]) (L' := [(2, 25, [.val (.int .i64 a0.f_Kind), .str a0.f_Text, .recs (α := List UInt8) [] E_string a0.f_Keys, .tree (α := S_api_Node) (S_api_Node.mk 0 [] [] []) pre_S_api_Node kids_S_api_Node a0.f_Kids]), (4, 25, [.val (.int .i64 0), .str [], .val (.slice none 0 0), .val (.slice none 0 0)])]) (ob := []) (by kernel_rfl) AllP.nil ?_
  refine To.thenN ?_
  refine Wp.seq ?_
  refine Wp.seq ?_
  refine Wp.region hΓ [] [] [] [1, 2, 4, 9] [2, 4] (K' := [(1, .str a1), (2, .own 2 0), (4, .own 4 0), (9, .val (.bool (a0.f_Kind != 3)))]) (L' := [(2, 25, [.val (.int .i64 a0.f_Kind), .str a0.f_Text, .recs (α := List UInt8) [] E_string a0.f_Keys, .tree (α := S_api_Node) (S_api_Node.mk 0 [] [] []) pre_S_api_Node kids_S_api_Node a0.f_Kids]), (4, 25, [.val (.int .i64 0), .str [], .val (.slice none 0 0), .val (.slice none 0 0)])]) (ob := []) (by kernel_rfl) AllP.nil ?_
  refine To.thenN ?_
  refine Wp.cond (b := (a0.f_Kind != 3)) (by kernel_rfl) (fun hb => ?_) (fun hb => ?_)
  · replace h := if_t hb h
    refine Wp.seq ?_
    refine Wp.region hΓ [] [] [] [4] [4] (K' := [(4, .own 4 0)]) (L' := [(4, 25, [.val (.int .i64 a0.f_Kind), .str a0.f_Text, .recs (α := List UInt8) [] E_string a0.f_Keys, .tree (α := S_api_Node) (S_api_Node.mk 0 [] [] []) pre_S_api_Node kids_S_api_Node a0.f_Kids])]) (ob := []) (by kernel_rfl) AllP.nil ?_
    refine To.thenN ?_
    refine Wp.ret ?_
    refine To.thenR ?_
    refine To.keep (kk := [4]) (kl := [4]) (K' := [(4, .own 4 0)]) (L' := [(4, 25, [.val (.int .i64 a0.f_Kind), .str a0.f_Text, .recs (α := List UInt8) [] E_string a0.f_Keys, .tree (α := S_api_Node) (S_api_Node.mk 0 [] [] []) pre_S_api_Node kids_S_api_Node a0.f_Kids])]) (by kernel_rfl) (by kernel_rfl) ?_
    cases h
    exact To.done hΓ (by kernel_rfl)
  · replace h := if_f hb h
    refine Wp.skip ?_
    refine To.thenN ?_
    refine Wp.seq ?_
    refine Wp.region hΓ [] [] [] [1, 2, 4, 5] [2, 4, 5] (K' := [(1, .str a1), (2, .own 2 0), (4, .own 4 0), (5, .own 5 0)]) (L' := [(2, 25, [.val (.int .i64 a0.f_Kind), .str a0.f_Text, .recs (α := List UInt8) [] E_string a0.f_Keys, .tree (α := S_api_Node) (S_api_Node.mk 0 [] [] []) pre_S_api_Node kids_S_api_Node a0.f_Kids]), (4, 25, [.val (.int .i64 0), .str [], .val (.slice none 0 0), .val (.slice none 0 0)]), (5, 25, [.val (.int .i64 3), .str [], .val (.slice none 0 0), .val (.slice none 0 0)])]) (ob := []) (by kernel_rfl) AllP.nil ?_
    refine To.thenN ?_
    refine Wp.seq ?_
    refine Wp.seq ?_
    refine Wp.region hΓ [] [] [] [1, 2, 4, 5, 6] [2, 4, 5] (K' := [(1, .str a1), (2, .own 2 0), (4, .own 4 0), (5, .own 5 0), (6, .val (.int .i64 0))]) (L' := [(2, 25, [.val (.int .i64 a0.f_Kind), .str a0.f_Text, .recs (α := List UInt8) [] E_string a0.f_Keys, .tree (α := S_api_Node) (S_api_Node.mk 0 [] [] []) pre_S_api_Node kids_S_api_Node a0.f_Kids]), (4, 25, [.val (.int .i64 0), .str [], .val (.slice none 0 0), .val (.slice none 0 0)]), (5, 25, [.val (.int .i64 3), .str [], .val (.slice none 0 0), .val (.slice none 0 0)])]) (ob := []) (by kernel_rfl) AllP.nil ?_
    refine To.thenN ?_
    refine Wp.block ?_
    obtain ⟨o1, ho1, h⟩ := bind_of h
    refine Wp.keep (kk := [1, 2, 4, 5, 6]) (kl := [2, 4, 5]) (K' := [(1, .str a1), (2, .own 2 0), (4, .own 4 0), (5, .own 5 0), (6, .val (.int .i64 0))]) (L' := [(2, 25, [.val (.int .i64 a0.f_Kind), .str a0.f_Text, .recs (α := List UInt8) [] E_string a0.f_Keys, .tree (α := S_api_Node) (S_api_Node.mk 0 [] [] []) pre_S_api_Node kids_S_api_Node a0.f_Kids]), (4, 25, [.val (.int .i64 0), .str [], .val (.slice none 0 0), .val (.slice none 0 0)]), (5, 25, [.val (.int .i64 3), .str [], .val (.slice none 0 0), .val (.slice none 0 0)])]) (by kernel_rfl) (by kernel_rfl) ?_
    refine Wp.pre (St.vacantB 5 2 4302 9 (good_E_string _) (by decide) (by kernel_rfl) (L' := [(2, 25, [.val (.int .i64 a0.f_Kind), .str a0.f_Text, .recs (α := List UInt8) [] E_string a0.f_Keys, .tree (α := S_api_Node) (S_api_Node.mk 0 [] [] []) pre_S_api_Node kids_S_api_Node a0.f_Kids]), (4, 25, [.val (.int .i64 0), .str [], .val (.slice none 0 0), .val (.slice none 0 0)]), (5, 25, [.val (.int .i64 3), .str [], .row 4302, .val (.slice none 0 0)])]) (by kernel_rfl)) ?_
    refine Wp.keep (kk := [1, 2, 4, 5, 6]) (kl := [2, 4, 5, 4302]) (K' := [(1, .str a1), (2, .own 2 0), (4, .own 4 0), (5, .own 5 0), (6, .val (.int .i64 0))]) (L' := [(2, 25, [.val (.int .i64 a0.f_Kind), .str a0.f_Text, .recs (α := List UInt8) [] E_string a0.f_Keys, .tree (α := S_api_Node) (S_api_Node.mk 0 [] [] []) pre_S_api_Node kids_S_api_Node a0.f_Kids]), (4, 25, [.val (.int .i64 0), .str [], .val (.slice none 0 0), .val (.slice none 0 0)]), (5, 25, [.val (.int .i64 3), .str [], .row 4302, .val (.slice none 0 0)]), (4302, 9, [.rowc false (α := List UInt8) [] E_string []])]) (by kernel_rfl) (by kernel_rfl) ?_
    refine Wp.pre (St.vacantB 5 3 4303 25 (good_E_api_Node _) (by decide) (by kernel_rfl) (L' := [(2, 25, [.val (.int .i64 a0.f_Kind), .str a0.f_Text, .recs (α := List UInt8) [] E_string a0.f_Keys, .tree (α := S_api_Node) (S_api_Node.mk 0 [] [] []) pre_S_api_Node kids_S_api_Node a0.f_Kids]), (4, 25, [.val (.int .i64 0), .str [], .val (.slice none 0 0), .val (.slice none 0 0)]), (5, 25, [.val (.int .i64 3), .str [], .row 4302, .row 4303]), (4302, 9, [.rowc false (α := List UInt8) [] E_string []])]) (by kernel_rfl)) ?_
    refine Wp.keep (kk := [1, 2, 4, 5, 6]) (kl := [2, 4, 5, 4302, 4303]) (K' := [(1, .str a1), (2, .own 2 0), (4, .own 4 0), (5, .own 5 0), (6, .val (.int .i64 0))]) (L' := [(2, 25, [.val (.int .i64 a0.f_Kind), .str a0.f_Text, .recs (α := List UInt8) [] E_string a0.f_Keys, .tree (α := S_api_Node) (S_api_Node.mk 0 [] [] []) pre_S_api_Node kids_S_api_Node a0.f_Kids]), (4, 25, [.val (.int .i64 0), .str [], .val (.slice none 0 0), .val (.slice none 0 0)]), (5, 25, [.val (.int .i64 3), .str [], .row 4302, .row 4303]), (4302, 9, [.rowc false (α := List UInt8) [] E_string []]), (4303, 25, [.rowc false (α := S_api_Node) (S_api_Node.mk 0 [] [] []) E_api_Node []])]) (by kernel_rfl) (by kernel_rfl) ?_
    refine Wp.weak (K' := [(1, .str a1), (2, .own 2 0), (4, .own 4 0), (5, .own 5 0), (6, .val (.int .i64 0))]) (L' := [(2, 25, [.val (.int .i64 a0.f_Kind), .str a0.f_Text, .recs (α := List UInt8) [] E_string a0.f_Keys, .tree (α := S_api_Node) (S_api_Node.mk 0 [] [] []) pre_S_api_Node kids_S_api_Node a0.f_Kids]), (4, 25, [.val (.int .i64 0), .str [], .recs (α := List UInt8) [] E_string [], .tree (α := S_api_Node) (S_api_Node.mk 0 [] [] []) pre_S_api_Node kids_S_api_Node []]), (5, 25, [.val (.int .i64 3), .str [], .row 4302, .row 4303]), (4302, 9, [.rowc false (α := List UInt8) [] E_string []]), (4303, 25, [.rowc false (α := S_api_Node) (S_api_Node.mk 0 [] [] []) E_api_Node []])]) (.cons (.refl _) (.cons (.refl _) (.cons (.refl _) (.cons (.refl _) (.cons (.refl _) .nil))))) (.cons (.cons (.refl _) (.cons (.refl _) (.cons (.refl _) (.cons (.refl _) .nil)))) (.cons (.cons (.refl _) (.cons (.refl _) (.cons (.zero _ _) (.cons (.zeroT _ _ _) .nil)))) (.cons (.cons (.refl _) (.cons (.refl _) (.cons (.refl _) (.cons (.refl _) .nil)))) (.cons (.cons (.refl _) .nil) (.cons (.cons (.refl _) .nil) .nil))))) ?_
    refine Wp.loopL ?_
    refine ok_ref08_Less_l1 n a1 a0 (S_api_Node.mk 0 [] [] []) n 0 (S_api_Node.mk 3 [] [] []) o1 ho1 ?_
    refine To.blockX ?_
    refine To.thenN ?_
    refine Wp.seq ?_
    refine Wp.region hΓ [] [] [] [4] [4, 4302, 4303] (K' := [(4, .own 4 0)]) (L' := [(4, 25, [.val (.int .i64 o1.f_Kind), .str o1.f_Text, .row 4302, .row 4303]), (4302, 9, [.rowc false (α := List UInt8) [] E_string o1.f_Keys]), (4303, 25, [.rowc false (α := S_api_Node) (S_api_Node.mk 0 [] [] []) E_api_Node o1.f_Kids])]) (ob := []) (by kernel_rfl) AllP.nil ?_
    refine To.thenN ?_
    refine Wp.ret ?_
    refine To.keep (kk := [4]) (kl := [4, 4302, 4303]) (K' := [(4, .own 4 0)]) (L' := [(4, 25, [.val (.int .i64 o1.f_Kind), .str o1.f_Text, .row 4302, .row 4303]), (4302, 9, [.rowc false (α := List UInt8) [] E_string o1.f_Keys]), (4303, 25, [.rowc false (α := S_api_Node) (S_api_Node.mk 0 [] [] []) E_api_Node o1.f_Kids])]) (by kernel_rfl) (by kernel_rfl) ?_
    refine To.pre (St.settle (ks := [4302, 4303]) (kk := [4]) (kl := [4, 4302, 4303]) (K' := [(4, .own 4 0)]) (L' := [(4, 25, [.val (.int .i64 o1.f_Kind), .str o1.f_Text, .row 4302, .row 4303]), (4302, 9, [.rowc true (α := List UInt8) [] E_string o1.f_Keys]), (4303, 25, [.rowc true (α := S_api_Node) (S_api_Node.mk 0 [] [] []) E_api_Node o1.f_Kids])]) (by kernel_rfl)) ?_
    refine To.pre (St.sealB [4] (L' := [(4, 25, [.val (.int .i64 o1.f_Kind), .str o1.f_Text, .recs (α := List UInt8) [] E_string o1.f_Keys, .recs (α := S_api_Node) (S_api_Node.mk 0 [] [] []) E_api_Node o1.f_Kids]), (4302, 9, [.rowc true (α := List UInt8) [] E_string o1.f_Keys]), (4303, 25, [.rowc true (α := S_api_Node) (S_api_Node.mk 0 [] [] []) E_api_Node o1.f_Kids])]) (by kernel_rfl)) ?_
    refine To.weak (K' := [(4, .own 4 0)]) (L' := [(4, 25, [.val (.int .i64 o1.f_Kind), .str o1.f_Text, .recs (α := List UInt8) [] E_string o1.f_Keys, .tree (α := S_api_Node) (S_api_Node.mk 0 [] [] []) pre_S_api_Node kids_S_api_Node o1.f_Kids]), (4302, 9, [.rowc true (α := List UInt8) [] E_string o1.f_Keys]), (4303, 25, [.rowc true (α := S_api_Node) (S_api_Node.mk 0 [] [] []) E_api_Node o1.f_Kids])]) (.cons (.refl _) .nil) (.cons (.cons (.refl _) (.cons (.refl _) (.cons (.refl _) (.cons (.close _ _ _ _) .nil)))) (.cons (.cons (.refl _) .nil) (.cons (.cons (.refl _) .nil) .nil))) ?_
    refine To.keep (kk := [4]) (kl := [4]) (K' := [(4, .own 4 0)]) (L' := [(4, 25, [.val (.int .i64 o1.f_Kind), .str o1.f_Text, .recs (α := List UInt8) [] E_string o1.f_Keys, .tree (α := S_api_Node) (S_api_Node.mk 0 [] [] []) pre_S_api_Node kids_S_api_Node o1.f_Kids])]) (by kernel_rfl) (by kernel_rfl) ?_
    cases h
    exact To.done hΓ (by kernel_rfl)
def law08_NodeTells (n : Nat) (a0 : S_api_Node) (a1 : S_api_Node) (a2 : List UInt8) (a3 : List (List UInt8)) : Option (Bool) :=
  (ref08_Small n a0 300).bind fun r1 =>
  ((if ((!r1) == false) = true then ref08_Small n a1 300 else some false)).bind fun r2 =>
  if (bif (bif (!r1) then true else (!r2)) then true else (decide ((List.length a3 : Int) > 20))) = true then ((law08_awake n).bind fun r3 =>
  some r3)
  else ((node_Get n a0 a2).bind fun r4 =>
  (ref08_Get n a0 a2).bind fun r5 =>
  (node_At n a0 a3).bind fun r6 =>
  (ref08_At n a0 a3).bind fun r7 =>
  ((if ((bif (!(r4.2 == r5.2)) then true else (!(r6.2 == r7.2))) == false) = true then ref08_Same n r4.1 r5.1 else some false)).bind fun r8 =>
  ((if ((bif (bif (!(r4.2 == r5.2)) then true else (!(r6.2 == r7.2))) then true else (!r8)) == false) = true then ref08_Same n r6.1 r7.1 else some false)).bind fun r9 =>
  ((if ((bif (bif (bif (!(r4.2 == r5.2)) then true else (!(r6.2 == r7.2))) then true else (!r8)) then true else (!r9)) == false) = true then node_Count n a0 else some 0)).bind fun r10 =>
  ((if ((bif (bif (bif (!(r4.2 == r5.2)) then true else (!(r6.2 == r7.2))) then true else (!r8)) then true else (!r9)) == false) = true then ref08_Count n a0 else some 0)).bind fun r11 =>
  ((if ((bif (bif (bif (bif (!(r4.2 == r5.2)) then true else (!(r6.2 == r7.2))) then true else (!r8)) then true else (!r9)) then true else (r10 != r11)) == false) = true then node_Deep n a0 else some 0)).bind fun r12 =>
  ((if ((bif (bif (bif (bif (!(r4.2 == r5.2)) then true else (!(r6.2 == r7.2))) then true else (!r8)) then true else (!r9)) then true else (r10 != r11)) == false) = true then ref08_Deep n a0 else some 0)).bind fun r13 =>
  ((if ((bif (bif (bif (bif (bif (!(r4.2 == r5.2)) then true else (!(r6.2 == r7.2))) then true else (!r8)) then true else (!r9)) then true else (r10 != r11)) then true else (r12 != r13)) == false) = true then node_Same n a0 a1 else some false)).bind fun r14 =>
  ((if ((bif (bif (bif (bif (bif (!(r4.2 == r5.2)) then true else (!(r6.2 == r7.2))) then true else (!r8)) then true else (!r9)) then true else (r10 != r11)) then true else (r12 != r13)) == false) = true then ref08_Same n a0 a1 else some false)).bind fun r15 =>
  ((if ((bif (bif (bif (bif (bif (bif (!(r4.2 == r5.2)) then true else (!(r6.2 == r7.2))) then true else (!r8)) then true else (!r9)) then true else (r10 != r11)) then true else (r12 != r13)) then true else (!(r14 == r15))) == false) = true then node_Same n a0 a0 else some false)).bind fun r16 =>
  lett ((bif (bif (bif (bif (bif (bif (bif (!(r4.2 == r5.2)) then true else (!(r6.2 == r7.2))) then true else (!r8)) then true else (!r9)) then true else (r10 != r11)) then true else (r12 != r13)) then true else (!(r14 == r15))) then true else (!r16)) : Bool) fun x17 =>
  if x17 = true then some false
  else ((node_With n a0 a2 a1).bind fun r18 =>
  (ref08_With n a0 a2 a1).bind fun r19 =>
  (ref08_Same n r18 r19).bind fun r20 =>
  ((if (r20 == true) = true then node_Less n a0 a2 else some (S_api_Node.mk 0 [] [] []))).bind fun r21 =>
  ((if (r20 == true) = true then ref08_Less n a0 a2 else some (S_api_Node.mk 0 [] [] []))).bind fun r22 =>
  ((if (r20 == true) = true then ref08_Same n r21 r22 else some false)).bind fun r23 =>
  ((if ((bif r20 then r23 else false) == true) = true then node_Seq n [a0, a1] else some (S_api_Node.mk 0 [] [] []))).bind fun r24 =>
  ((if ((bif r20 then r23 else false) == true) = true then ref08_Same n r24 (S_api_Node.mk 2 [] [] [a0, a1]) else some false)).bind fun r25 =>
  ((if ((bif (bif r20 then r23 else false) then r25 else false) == true) = true then law08_awake n else some false)).bind fun r26 =>
  some (bif (bif (bif r20 then r23 else false) then r25 else false) then r26 else false)))
theorem ok_law08_NodeTells (n : Nat) (a0 : S_api_Node) (a1 : S_api_Node) (a2 : List UInt8) (a3 : List (List UInt8)) (r : Bool) (h : law08_NodeTells n a0 a1 a2 a3 = some r) : CallsX Try.prog 4 [.agg [.val (.int .i64 a0.f_Kind), .str a0.f_Text, .recs (α := List UInt8) [] E_string a0.f_Keys, .tree (α := S_api_Node) (S_api_Node.mk 0 [] [] []) pre_S_api_Node kids_S_api_Node a0.f_Kids], .agg [.val (.int .i64 a1.f_Kind), .str a1.f_Text, .recs (α := List UInt8) [] E_string a1.f_Keys, .tree (α := S_api_Node) (S_api_Node.mk 0 [] [] []) pre_S_api_Node kids_S_api_Node a1.f_Kids], .str a2, .recs (α := List UInt8) [] E_string a3] (.val (.bool r)) := by
  unfold law08_NodeTells at h
  refine callsX_of (fn := Try.f4) (by kernel_rfl) rfl (by kernel_rfl) (Nat.le_of_ble_eq_true (by kernel_rfl)) fun F0 w0 _ => ?_
  refine Wp.keep (kk := [0, 1, 2, 3]) (kl := []) (K' := [(0, .agg [.val (.int .i64 a0.f_Kind), .str a0.f_Text, .recs (α := List UInt8) [] E_string a0.f_Keys, .tree (α := S_api_Node) (S_api_Node.mk 0 [] [] []) pre_S_api_Node kids_S_api_Node a0.f_Kids]), (1, .agg [.val (.int .i64 a1.f_Kind), .str a1.f_Text, .recs (α := List UInt8) [] E_string a1.f_Keys, .tree (α := S_api_Node) (S_api_Node.mk 0 [] [] []) pre_S_api_Node kids_S_api_Node a1.f_Kids]), (2, .str a2), (3, .recs (α := List UInt8) [] E_string a3)]) (L' := []) (by kernel_rfl) (by kernel_rfl) ?_
  refine Wp.seq ?_
  refine Wp.region hΓ [] [] [] [2, 3, 4, 5] [4, 5] (K' := [(2, .str a2), (3, .recs (α := List UInt8) [] E_string a3), (4, .own 4 0), (5, .own 5 0)]) (L' := [(4, 25, [.val (.int .i64 a0.f_Kind), .str a0.f_Text, .recs (α := List UInt8) [] E_string a0.f_Keys, .tree (α := S_api_Node) (S_api_Node.mk 0 [] [] []) pre_S_api_Node kids_S_api_Node a0.f_Kids]), (5, 25, [.val (.int .i64 a1.f_Kind), .str a1.f_Text, .recs (α := List UInt8) [] E_string a1.f_Keys, .tree (α := S_api_Node) (S_api_Node.mk 0 [] [] []) pre_S_api_Node kids_S_api_Node a1.f_Kids])]) (ob := []) (by kernel_rfl) AllP.nil ?_
  refine To.thenN ?_
  refine Wp.seq ?_
  refine Wp.seq ?_
  obtain ⟨r1, hr1, h⟩ := bind_of h
  obtain ⟨r2, hr2, h⟩ := bind_of h
  refine Wp.region hΓ [] [(1, .val (.bool r1)), (5, .val (.bool r2))] [] [2, 3, 4, 5, 29] [4, 5] (K' := [(2, .str a2), (3, .recs (α := List UInt8) [] E_string a3), (4, .own 4 0), (5, .own 5 0), (29, .val (.bool (bif (bif (!r1) then true else (!r2)) then true else (decide ((List.length a3 : Int) > 20)))))]) (L' := [(4, 25, [.val (.int .i64 a0.f_Kind), .str a0.f_Text, .recs (α := List UInt8) [] E_string a0.f_Keys, .tree (α := S_api_Node) (S_api_Node.mk 0 [] [] []) pre_S_api_Node kids_S_api_Node a0.f_Kids]), (5, 25, [.val (.int .i64 a1.f_Kind), .str a1.f_Text, .recs (α := List UInt8) [] E_string a1.f_Keys, .tree (α := S_api_Node) (S_api_Node.mk 0 [] [] []) pre_S_api_Node kids_S_api_Node a1.f_Kids])]) (ob := [(true = true → CX Try.prog 6 [.agg [.val (.int .i64 a0.f_Kind), .str a0.f_Text, .recs (α := List UInt8) [] E_string a0.f_Keys, .tree (α := S_api_Node) (S_api_Node.mk 0 [] [] []) pre_S_api_Node kids_S_api_Node a0.f_Kids], .val (.int .i64 300)] (.val (.bool r1))), (((!r1) == false) = true → CX Try.prog 6 [.agg [.val (.int .i64 a1.f_Kind), .str a1.f_Text, .recs (α := List UInt8) [] E_string a1.f_Keys, .tree (α := S_api_Node) (S_api_Node.mk 0 [] [] []) pre_S_api_Node kids_S_api_Node a1.f_Kids], .val (.int .i64 300)] (.val (.bool r2)))]) (by kernel_rfl) (AllP.cons (fun _ => cx (ok_ref08_Small n a0 300 _ hr1)) (AllP.cons (fun hg => cx (ok_ref08_Small n a1 300 _ (if_t hg hr2))) AllP.nil)) ?_
  refine To.thenN ?_
  refine Wp.cond (b := (bif (bif (!r1) then true else (!r2)) then true else (decide ((List.length a3 : Int) > 20)))) (by kernel_rfl) (fun hb => ?_) (fun hb => ?_)
  · replace h := if_t hb h
    refine Wp.seq ?_
    obtain ⟨r3, hr3, h⟩ := bind_of h
    refine Wp.region hΓ [] [(0, .val (.bool r3))] [] [8] [] (K' := [(8, .val (.bool r3))]) (L' := []) (ob := [(true = true → CX Try.prog 7 [] (.val (.bool r3)))]) (by kernel_rfl) (AllP.cons (fun _ => cx (ok_law08_awake n  _ hr3)) AllP.nil) ?_
    refine To.thenN ?_
    refine Wp.ret ?_
    refine To.thenR ?_
    refine To.keep (kk := [8]) (kl := []) (K' := [(8, .val (.bool r3))]) (L' := []) (by kernel_rfl) (by kernel_rfl) ?_
    cases h
    exact To.done hΓ (by kernel_rfl)
  · replace h := if_f hb h
    refine Wp.skip ?_
    refine To.thenN ?_
    refine Wp.seq ?_
    obtain ⟨r4, hr4, h⟩ := bind_of h
    refine Wp.region hΓ [] [(2, .tup [.agg [.val (.int .i64 r4.1.f_Kind), .str r4.1.f_Text, .recs (α := List UInt8) [] E_string r4.1.f_Keys, .tree (α := S_api_Node) (S_api_Node.mk 0 [] [] []) pre_S_api_Node kids_S_api_Node r4.1.f_Kids], .val (.bool r4.2)])] [] [2, 3, 4, 5, 9, 10] [4, 5, 9] (K' := [(2, .str a2), (3, .recs (α := List UInt8) [] E_string a3), (4, .own 4 0), (5, .own 5 0), (9, .own 9 0), (10, .val (.bool r4.2))]) (L' := [(4, 25, [.val (.int .i64 a0.f_Kind), .str a0.f_Text, .recs (α := List UInt8) [] E_string a0.f_Keys, .tree (α := S_api_Node) (S_api_Node.mk 0 [] [] []) pre_S_api_Node kids_S_api_Node a0.f_Kids]), (5, 25, [.val (.int .i64 a1.f_Kind), .str a1.f_Text, .recs (α := List UInt8) [] E_string a1.f_Keys, .tree (α := S_api_Node) (S_api_Node.mk 0 [] [] []) pre_S_api_Node kids_S_api_Node a1.f_Kids]), (9, 25, [.val (.int .i64 r4.1.f_Kind), .str r4.1.f_Text, .recs (α := List UInt8) [] E_string r4.1.f_Keys, .tree (α := S_api_Node) (S_api_Node.mk 0 [] [] []) pre_S_api_Node kids_S_api_Node r4.1.f_Kids])]) (ob := [(true = true → CX Try.prog 17 [.agg [.val (.int .i64 a0.f_Kind), .str a0.f_Text, .recs (α := List UInt8) [] E_string a0.f_Keys, .tree (α := S_api_Node) (S_api_Node.mk 0 [] [] []) pre_S_api_Node kids_S_api_Node a0.f_Kids], .str a2] (.tup [.agg [.val (.int .i64 r4.1.f_Kind), .str r4.1.f_Text, .recs (α := List UInt8) [] E_string r4.1.f_Keys, .tree (α := S_api_Node) (S_api_Node.mk 0 [] [] []) pre_S_api_Node kids_S_api_Node r4.1.f_Kids], .val (.bool r4.2)]))]) (by kernel_rfl) (AllP.cons (fun _ => cx (ok_node_Get n a0 a2 _ hr4)) AllP.nil) ?_
    refine To.thenN ?_
    refine Wp.seq ?_
    obtain ⟨r5, hr5, h⟩ := bind_of h
    refine Wp.region hΓ [] [(2, .tup [.agg [.val (.int .i64 r5.1.f_Kind), .str r5.1.f_Text, .recs (α := List UInt8) [] E_string r5.1.f_Keys, .tree (α := S_api_Node) (S_api_Node.mk 0 [] [] []) pre_S_api_Node kids_S_api_Node r5.1.f_Kids], .val (.bool r5.2)])] [] [2, 3, 4, 5, 9, 10, 11, 12] [4, 5, 9, 11] (K' := [(2, .str a2), (3, .recs (α := List UInt8) [] E_string a3), (4, .own 4 0), (5, .own 5 0), (9, .own 9 0), (10, .val (.bool r4.2)), (11, .own 11 0), (12, .val (.bool r5.2))]) (L' := [(4, 25, [.val (.int .i64 a0.f_Kind), .str a0.f_Text, .recs (α := List UInt8) [] E_string a0.f_Keys, .tree (α := S_api_Node) (S_api_Node.mk 0 [] [] []) pre_S_api_Node kids_S_api_Node a0.f_Kids]), (5, 25, [.val (.int .i64 a1.f_Kind), .str a1.f_Text, .recs (α := List UInt8) [] E_string a1.f_Keys, .tree (α := S_api_Node) (S_api_Node.mk 0 [] [] []) pre_S_api_Node kids_S_api_Node a1.f_Kids]), (9, 25, [.val (.int .i64 r4.1.f_Kind), .str r4.1.f_Text, .recs (α := List UInt8) [] E_string r4.1.f_Keys, .tree (α := S_api_Node) (S_api_Node.mk 0 [] [] []) pre_S_api_Node kids_S_api_Node r4.1.f_Kids]), (11, 25, [.val (.int .i64 r5.1.f_Kind), .str r5.1.f_Text, .recs (α := List UInt8) [] E_string r5.1.f_Keys, .tree (α := S_api_Node) (S_api_Node.mk 0 [] [] []) pre_S_api_Node kids_S_api_Node r5.1.f_Kids])]) (ob := [(true = true → CX Try.prog 18 [.agg [.val (.int .i64 a0.f_Kind), .str a0.f_Text, .recs (α := List UInt8) [] E_string a0.f_Keys, .tree (α := S_api_Node) (S_api_Node.mk 0 [] [] []) pre_S_api_Node kids_S_api_Node a0.f_Kids], .str a2] (.tup [.agg [.val (.int .i64 r5.1.f_Kind), .str r5.1.f_Text, .recs (α := List UInt8) [] E_string r5.1.f_Keys, .tree (α := S_api_Node) (S_api_Node.mk 0 [] [] []) pre_S_api_Node kids_S_api_Node r5.1.f_Kids], .val (.bool r5.2)]))]) (by kernel_rfl) (AllP.cons (fun _ => cx (ok_ref08_Get n a0 a2 _ hr5)) AllP.nil) ?_
    refine To.thenN ?_
    refine Wp.seq ?_
    obtain ⟨r6, hr6, h⟩ := bind_of h
    refine Wp.region hΓ [] [(2, .tup [.agg [.val (.int .i64 r6.1.f_Kind), .str r6.1.f_Text, .recs (α := List UInt8) [] E_string r6.1.f_Keys, .tree (α := S_api_Node) (S_api_Node.mk 0 [] [] []) pre_S_api_Node kids_S_api_Node r6.1.f_Kids], .val (.bool r6.2)])] [] [2, 3, 4, 5, 9, 10, 11, 12, 13, 14] [4, 5, 9, 11, 13] (K' := [(2, .str a2), (3, .recs (α := List UInt8) [] E_string a3), (4, .own 4 0), (5, .own 5 0), (9, .own 9 0), (10, .val (.bool r4.2)), (11, .own 11 0), (12, .val (.bool r5.2)), (13, .own 13 0), (14, .val (.bool r6.2))]) (L' := [(4, 25, [.val (.int .i64 a0.f_Kind), .str a0.f_Text, .recs (α := List UInt8) [] E_string a0.f_Keys, .tree (α := S_api_Node) (S_api_Node.mk 0 [] [] []) pre_S_api_Node kids_S_api_Node a0.f_Kids]), (5, 25, [.val (.int .i64 a1.f_Kind), .str a1.f_Text, .recs (α := List UInt8) [] E_string a1.f_Keys, .tree (α := S_api_Node) (S_api_Node.mk 0 [] [] []) pre_S_api_Node kids_S_api_Node a1.f_Kids]), (9, 25, [.val (.int .i64 r4.1.f_Kind), .str r4.1.f_Text, .recs (α := List UInt8) [] E_string r4.1.f_Keys, .tree (α := S_api_Node) (S_api_Node.mk 0 [] [] []) pre_S_api_Node kids_S_api_Node r4.1.f_Kids]), (11, 25, [.val (.int .i64 r5.1.f_Kind), .str r5.1.f_Text, .recs (α := List UInt8) [] E_string r5.1.f_Keys, .tree (α := S_api_Node) (S_api_Node.mk 0 [] [] []) pre_S_api_Node kids_S_api_Node r5.1.f_Kids]), (13, 25, [.val (.int .i64 r6.1.f_Kind), .str r6.1.f_Text, .recs (α := List UInt8) [] E_string r6.1.f_Keys, .tree (α := S_api_Node) (S_api_Node.mk 0 [] [] []) pre_S_api_Node kids_S_api_Node r6.1.f_Kids])]) (ob := [(true = true → CX Try.prog 14 [.agg [.val (.int .i64 a0.f_Kind), .str a0.f_Text, .recs (α := List UInt8) [] E_string a0.f_Keys, .tree (α := S_api_Node) (S_api_Node.mk 0 [] [] []) pre_S_api_Node kids_S_api_Node a0.f_Kids], .recs (α := List UInt8) [] E_string a3] (.tup [.agg [.val (.int .i64 r6.1.f_Kind), .str r6.1.f_Text, .recs (α := List UInt8) [] E_string r6.1.f_Keys, .tree (α := S_api_Node) (S_api_Node.mk 0 [] [] []) pre_S_api_Node kids_S_api_Node r6.1.f_Kids], .val (.bool r6.2)]))]) (by kernel_rfl) (AllP.cons (fun _ => cx (ok_node_At n a0 a3 _ hr6)) AllP.nil) ?_
    refine To.thenN ?_
    refine Wp.seq ?_
    obtain ⟨r7, hr7, h⟩ := bind_of h
    refine Wp.region hΓ [] [(2, .tup [.agg [.val (.int .i64 r7.1.f_Kind), .str r7.1.f_Text, .recs (α := List UInt8) [] E_string r7.1.f_Keys, .tree (α := S_api_Node) (S_api_Node.mk 0 [] [] []) pre_S_api_Node kids_S_api_Node r7.1.f_Kids], .val (.bool r7.2)])] [] [2, 4, 5, 9, 10, 11, 12, 13, 14, 15, 16] [4, 5, 9, 11, 13, 15] (K' := [(2, .str a2), (4, .own 4 0), (5, .own 5 0), (9, .own 9 0), (10, .val (.bool r4.2)), (11, .own 11 0), (12, .val (.bool r5.2)), (13, .own 13 0), (14, .val (.bool r6.2)), (15, .own 15 0), (16, .val (.bool r7.2))]) (L' := [(4, 25, [.val (.int .i64 a0.f_Kind), .str a0.f_Text, .recs (α := List UInt8) [] E_string a0.f_Keys, .tree (α := S_api_Node) (S_api_Node.mk 0 [] [] []) pre_S_api_Node kids_S_api_Node a0.f_Kids]), (5, 25, [.val (.int .i64 a1.f_Kind), .str a1.f_Text, .recs (α := List UInt8) [] E_string a1.f_Keys, .tree (α := S_api_Node) (S_api_Node.mk 0 [] [] []) pre_S_api_Node kids_S_api_Node a1.f_Kids]), (9, 25, [.val (.int .i64 r4.1.f_Kind), .str r4.1.f_Text, .recs (α := List UInt8) [] E_string r4.1.f_Keys, .tree (α := S_api_Node) (S_api_Node.mk 0 [] [] []) pre_S_api_Node kids_S_api_Node r4.1.f_Kids]), (11, 25, [.val (.int .i64 r5.1.f_Kind), .str r5.1.f_Text, .recs (α := List UInt8) [] E_string r5.1.f_Keys, .tree (α := S_api_Node) (S_api_Node.mk 0 [] [] []) pre_S_api_Node kids_S_api_Node r5.1.f_Kids]), (13, 25, [.val (.int .i64 r6.1.f_Kind), .str r6.1.f_Text, .recs (α := List UInt8) [] E_string r6.1.f_Keys, .tree (α := S_api_Node) (S_api_Node.mk 0 [] [] []) pre_S_api_Node kids_S_api_Node r6.1.f_Kids]), (15, 25, [.val (.int .i64 r7.1.f_Kind), .str r7.1.f_Text, .recs (α := List UInt8) [] E_string r7.1.f_Keys, .tree (α := S_api_Node) (S_api_Node.mk 0 [] [] []) pre_S_api_Node kids_S_api_Node r7.1.f_Kids])]) (ob := [(true = true → CX Try.prog 19 [.agg [.val (.int .i64 a0.f_Kind), .str a0.f_Text, .recs (α := List UInt8) [] E_string a0.f_Keys, .tree (α := S_api_Node) (S_api_Node.mk 0 [] [] []) pre_S_api_Node kids_S_api_Node a0.f_Kids], .recs (α := List UInt8) [] E_string a3] (.tup [.agg [.val (.int .i64 r7.1.f_Kind), .str r7.1.f_Text, .recs (α := List UInt8) [] E_string r7.1.f_Keys, .tree (α := S_api_Node) (S_api_Node.mk 0 [] [] []) pre_S_api_Node kids_S_api_Node r7.1.f_Kids], .val (.bool r7.2)]))]) (by kernel_rfl) (AllP.cons (fun _ => cx (ok_ref08_At n a0 a3 _ hr7)) AllP.nil) ?_
    refine To.thenN ?_
    refine Wp.seq ?_
    refine Wp.seq ?_
    obtain ⟨r8, hr8, h⟩ := bind_of h
    obtain ⟨r9, hr9, h⟩ := bind_of h
    obtain ⟨r10, hr10, h⟩ := bind_of h
    obtain ⟨r11, hr11, h⟩ := bind_of h
    obtain ⟨r12, hr12, h⟩ := bind_of h
    obtain ⟨r13, hr13, h⟩ := bind_of h
    obtain ⟨r14, hr14, h⟩ := bind_of h
    obtain ⟨r15, hr15, h⟩ := bind_of h
    obtain ⟨r16, hr16, h⟩ := bind_of h
    obtain ⟨x17, hx17, h⟩ := lett_of h
    refine Wp.regionD hm hΓ [(11, .val (.bool r8)), (17, .val (.bool r9)), (22, .val (.int .i64 r10)), (24, .val (.int .i64 r11)), (29, .val (.int .i64 r12)), (31, .val (.int .i64 r13)), (37, .val (.bool r14)), (40, .val (.bool r15)), (46, .val (.bool r16))] [2, 4, 5, 103] [4, 5] (K' := [(2, .str a2), (4, .own 4 0), (5, .own 5 0), (103, .val (.bool (bif (bif (bif (bif (bif (bif (bif (!(r4.2 == r5.2)) then true else (!(r6.2 == r7.2))) then true else (!r8)) then true else (!r9)) then true else (r10 != r11)) then true else (r12 != r13)) then true else (!(r14 == r15))) then true else (!r16))))]) (L' := [(4, 25, [.val (.int .i64 a0.f_Kind), .str a0.f_Text, .recs (α := List UInt8) [] E_string a0.f_Keys, .tree (α := S_api_Node) (S_api_Node.mk 0 [] [] []) pre_S_api_Node kids_S_api_Node a0.f_Kids]), (5, 25, [.val (.int .i64 a1.f_Kind), .str a1.f_Text, .recs (α := List UInt8) [] E_string a1.f_Keys, .tree (α := S_api_Node) (S_api_Node.mk 0 [] [] []) pre_S_api_Node kids_S_api_Node a1.f_Kids])]) (ob := [(((bif (!(r4.2 == r5.2)) then true else (!(r6.2 == r7.2))) == false) = true → CX Try.prog 11 [.agg [.val (.int .i64 r4.1.f_Kind), .str r4.1.f_Text, .recs (α := List UInt8) [] E_string r4.1.f_Keys, .tree (α := S_api_Node) (S_api_Node.mk 0 [] [] []) pre_S_api_Node kids_S_api_Node r4.1.f_Kids], .agg [.val (.int .i64 r5.1.f_Kind), .str r5.1.f_Text, .recs (α := List UInt8) [] E_string r5.1.f_Keys, .tree (α := S_api_Node) (S_api_Node.mk 0 [] [] []) pre_S_api_Node kids_S_api_Node r5.1.f_Kids]] (.val (.bool r8))), (((bif (bif (!(r4.2 == r5.2)) then true else (!(r6.2 == r7.2))) then true else (!r8)) == false) = true → CX Try.prog 11 [.agg [.val (.int .i64 r6.1.f_Kind), .str r6.1.f_Text, .recs (α := List UInt8) [] E_string r6.1.f_Keys, .tree (α := S_api_Node) (S_api_Node.mk 0 [] [] []) pre_S_api_Node kids_S_api_Node r6.1.f_Kids], .agg [.val (.int .i64 r7.1.f_Kind), .str r7.1.f_Text, .recs (α := List UInt8) [] E_string r7.1.f_Keys, .tree (α := S_api_Node) (S_api_Node.mk 0 [] [] []) pre_S_api_Node kids_S_api_Node r7.1.f_Kids]] (.val (.bool r9))), (((bif (bif (bif (!(r4.2 == r5.2)) then true else (!(r6.2 == r7.2))) then true else (!r8)) then true else (!r9)) == false) = true → CX Try.prog 20 [.agg [.val (.int .i64 a0.f_Kind), .str a0.f_Text, .recs (α := List UInt8) [] E_string a0.f_Keys, .tree (α := S_api_Node) (S_api_Node.mk 0 [] [] []) pre_S_api_Node kids_S_api_Node a0.f_Kids]] (.val (.int .i64 r10))), (((bif (bif (bif (!(r4.2 == r5.2)) then true else (!(r6.2 == r7.2))) then true else (!r8)) then true else (!r9)) == false) = true → CX Try.prog 12 [.agg [.val (.int .i64 a0.f_Kind), .str a0.f_Text, .recs (α := List UInt8) [] E_string a0.f_Keys, .tree (α := S_api_Node) (S_api_Node.mk 0 [] [] []) pre_S_api_Node kids_S_api_Node a0.f_Kids]] (.val (.int .i64 r11))), (((bif (bif (bif (bif (!(r4.2 == r5.2)) then true else (!(r6.2 == r7.2))) then true else (!r8)) then true else (!r9)) then true else (r10 != r11)) == false) = true → CX Try.prog 21 [.agg [.val (.int .i64 a0.f_Kind), .str a0.f_Text, .recs (α := List UInt8) [] E_string a0.f_Keys, .tree (α := S_api_Node) (S_api_Node.mk 0 [] [] []) pre_S_api_Node kids_S_api_Node a0.f_Kids]] (.val (.int .i64 r12))), (((bif (bif (bif (bif (!(r4.2 == r5.2)) then true else (!(r6.2 == r7.2))) then true else (!r8)) then true else (!r9)) then true else (r10 != r11)) == false) = true → CX Try.prog 22 [.agg [.val (.int .i64 a0.f_Kind), .str a0.f_Text, .recs (α := List UInt8) [] E_string a0.f_Keys, .tree (α := S_api_Node) (S_api_Node.mk 0 [] [] []) pre_S_api_Node kids_S_api_Node a0.f_Kids]] (.val (.int .i64 r13))), (((bif (bif (bif (bif (bif (!(r4.2 == r5.2)) then true else (!(r6.2 == r7.2))) then true else (!r8)) then true else (!r9)) then true else (r10 != r11)) then true else (r12 != r13)) == false) = true → CX Try.prog 16 [.agg [.val (.int .i64 a0.f_Kind), .str a0.f_Text, .recs (α := List UInt8) [] E_string a0.f_Keys, .tree (α := S_api_Node) (S_api_Node.mk 0 [] [] []) pre_S_api_Node kids_S_api_Node a0.f_Kids], .agg [.val (.int .i64 a1.f_Kind), .str a1.f_Text, .recs (α := List UInt8) [] E_string a1.f_Keys, .tree (α := S_api_Node) (S_api_Node.mk 0 [] [] []) pre_S_api_Node kids_S_api_Node a1.f_Kids]] (.val (.bool r14))), (((bif (bif (bif (bif (bif (!(r4.2 == r5.2)) then true else (!(r6.2 == r7.2))) then true else (!r8)) then true else (!r9)) then true else (r10 != r11)) then true else (r12 != r13)) == false) = true → CX Try.prog 11 [.agg [.val (.int .i64 a0.f_Kind), .str a0.f_Text, .recs (α := List UInt8) [] E_string a0.f_Keys, .tree (α := S_api_Node) (S_api_Node.mk 0 [] [] []) pre_S_api_Node kids_S_api_Node a0.f_Kids], .agg [.val (.int .i64 a1.f_Kind), .str a1.f_Text, .recs (α := List UInt8) [] E_string a1.f_Keys, .tree (α := S_api_Node) (S_api_Node.mk 0 [] [] []) pre_S_api_Node kids_S_api_Node a1.f_Kids]] (.val (.bool r15))), (((bif (bif (bif (bif (bif (bif (!(r4.2 == r5.2)) then true else (!(r6.2 == r7.2))) then true else (!r8)) then true else (!r9)) then true else (r10 != r11)) then true else (r12 != r13)) then true else (!(r14 == r15))) == false) = true → CX Try.prog 16 [.agg [.val (.int .i64 a0.f_Kind), .str a0.f_Text, .recs (α := List UInt8) [] E_string a0.f_Keys, .tree (α := S_api_Node) (S_api_Node.mk 0 [] [] []) pre_S_api_Node kids_S_api_Node a0.f_Kids], .agg [.val (.int .i64 a0.f_Kind), .str a0.f_Text, .recs (α := List UInt8) [] E_string a0.f_Keys, .tree (α := S_api_Node) (S_api_Node.mk 0 [] [] []) pre_S_api_Node kids_S_api_Node a0.f_Kids]] (.val (.bool r16)))]) (by kernel_rfl) (AllP.cons (fun hg => cx (ok_ref08_Same n r4.1 r5.1 _ (if_t hg hr8))) (AllP.cons (fun hg => cx (ok_ref08_Same n r6.1 r7.1 _ (if_t hg hr9))) (AllP.cons (fun hg => cx (ok_node_Count n a0 _ (if_t hg hr10))) (AllP.cons (fun hg => cx (ok_ref08_Count n a0 _ (if_t hg hr11))) (AllP.cons (fun hg => cx (ok_node_Deep n a0 _ (if_t hg hr12))) (AllP.cons (fun hg => cx (ok_ref08_Deep n a0 _ (if_t hg hr13))) (AllP.cons (fun hg => cx (ok_node_Same n a0 a1 _ (if_t hg hr14))) (AllP.cons (fun hg => cx (ok_ref08_Same n a0 a1 _ (if_t hg hr15))) (AllP.cons (fun hg => cx (ok_node_Same n a0 a0 _ (if_t hg hr16))) AllP.nil))))))))) ?_
    refine To.eq (K' := [(2, .str a2), (4, .own 4 0), (5, .own 5 0), (103, .val (.bool x17))]) (L' := [(4, 25, [.val (.int .i64 a0.f_Kind), .str a0.f_Text, .recs (α := List UInt8) [] E_string a0.f_Keys, .tree (α := S_api_Node) (S_api_Node.mk 0 [] [] []) pre_S_api_Node kids_S_api_Node a0.f_Kids]), (5, 25, [.val (.int .i64 a1.f_Kind), .str a1.f_Text, .recs (α := List UInt8) [] E_string a1.f_Keys, .tree (α := S_api_Node) (S_api_Node.mk 0 [] [] []) pre_S_api_Node kids_S_api_Node a1.f_Kids])]) (by cases hx17; rfl) (by cases hx17; rfl) ?_
    refine To.thenN ?_
    refine Wp.cond (b := x17) (by kernel_rfl) (fun hb => ?_) (fun hb => ?_)
    · replace h := if_t hb h
      refine Wp.seq ?_
      refine Wp.region hΓ [] [] [] [8] [] (K' := [(8, .val (.bool false))]) (L' := []) (ob := []) (by kernel_rfl) AllP.nil ?_
      refine To.thenN ?_
      refine Wp.ret ?_
      refine To.thenR ?_
      refine To.keep (kk := [8]) (kl := []) (K' := [(8, .val (.bool false))]) (L' := []) (by kernel_rfl) (by kernel_rfl) ?_
      cases h
      exact To.done hΓ (by kernel_rfl)
    · replace h := if_f hb h
      refine Wp.skip ?_
      refine To.thenN ?_
      refine Wp.seq ?_
      obtain ⟨r18, hr18, h⟩ := bind_of h
      obtain ⟨r19, hr19, h⟩ := bind_of h
      obtain ⟨r20, hr20, h⟩ := bind_of h
      obtain ⟨r21, hr21, h⟩ := bind_of h
      obtain ⟨r22, hr22, h⟩ := bind_of h
      obtain ⟨r23, hr23, h⟩ := bind_of h
      obtain ⟨r24, hr24, h⟩ := bind_of h
      obtain ⟨r25, hr25, h⟩ := bind_of h
      obtain ⟨r26, hr26, h⟩ := bind_of h
      refine Wp.regionD hm hΓ [(3, .agg [.val (.int .i64 r18.f_Kind), .str r18.f_Text, .recs (α := List UInt8) [] E_string r18.f_Keys, .tree (α := S_api_Node) (S_api_Node.mk 0 [] [] []) pre_S_api_Node kids_S_api_Node r18.f_Kids]), (7, .agg [.val (.int .i64 r19.f_Kind), .str r19.f_Text, .recs (α := List UInt8) [] E_string r19.f_Keys, .tree (α := S_api_Node) (S_api_Node.mk 0 [] [] []) pre_S_api_Node kids_S_api_Node r19.f_Kids]), (8, .val (.bool r20)), (12, .agg [.val (.int .i64 r21.f_Kind), .str r21.f_Text, .recs (α := List UInt8) [] E_string r21.f_Keys, .tree (α := S_api_Node) (S_api_Node.mk 0 [] [] []) pre_S_api_Node kids_S_api_Node r21.f_Kids]), (15, .agg [.val (.int .i64 r22.f_Kind), .str r22.f_Text, .recs (α := List UInt8) [] E_string r22.f_Keys, .tree (α := S_api_Node) (S_api_Node.mk 0 [] [] []) pre_S_api_Node kids_S_api_Node r22.f_Kids]), (16, .val (.bool r23)), (21, .recs (α := S_api_Node) (S_api_Node.mk 0 [] [] []) E_api_Node [a0, a1]), (22, .agg [.val (.int .i64 r24.f_Kind), .str r24.f_Text, .recs (α := List UInt8) [] E_string r24.f_Keys, .tree (α := S_api_Node) (S_api_Node.mk 0 [] [] []) pre_S_api_Node kids_S_api_Node r24.f_Kids]), (25, .recs (α := S_api_Node) (S_api_Node.mk 0 [] [] []) E_api_Node [a0, a1]), (27, .val (.bool r25)), (30, .val (.bool r26))] [8] [] (K' := [(8, .val (.bool (bif (bif (bif r20 then r23 else false) then r25 else false) then r26 else false)))]) (L' := []) (ob := [(true = true → CX Try.prog 23 [.agg [.val (.int .i64 a0.f_Kind), .str a0.f_Text, .recs (α := List UInt8) [] E_string a0.f_Keys, .tree (α := S_api_Node) (S_api_Node.mk 0 [] [] []) pre_S_api_Node kids_S_api_Node a0.f_Kids], .str a2, .agg [.val (.int .i64 a1.f_Kind), .str a1.f_Text, .recs (α := List UInt8) [] E_string a1.f_Keys, .tree (α := S_api_Node) (S_api_Node.mk 0 [] [] []) pre_S_api_Node kids_S_api_Node a1.f_Kids]] (.agg [.val (.int .i64 r18.f_Kind), .str r18.f_Text, .recs (α := List UInt8) [] E_string r18.f_Keys, .tree (α := S_api_Node) (S_api_Node.mk 0 [] [] []) pre_S_api_Node kids_S_api_Node r18.f_Kids])), (true = true → CX Try.prog 24 [.agg [.val (.int .i64 a0.f_Kind), .str a0.f_Text, .recs (α := List UInt8) [] E_string a0.f_Keys, .tree (α := S_api_Node) (S_api_Node.mk 0 [] [] []) pre_S_api_Node kids_S_api_Node a0.f_Kids], .str a2, .agg [.val (.int .i64 a1.f_Kind), .str a1.f_Text, .recs (α := List UInt8) [] E_string a1.f_Keys, .tree (α := S_api_Node) (S_api_Node.mk 0 [] [] []) pre_S_api_Node kids_S_api_Node a1.f_Kids]] (.agg [.val (.int .i64 r19.f_Kind), .str r19.f_Text, .recs (α := List UInt8) [] E_string r19.f_Keys, .tree (α := S_api_Node) (S_api_Node.mk 0 [] [] []) pre_S_api_Node kids_S_api_Node r19.f_Kids])), (true = true → CX Try.prog 11 [.agg [.val (.int .i64 r18.f_Kind), .str r18.f_Text, .recs (α := List UInt8) [] E_string r18.f_Keys, .tree (α := S_api_Node) (S_api_Node.mk 0 [] [] []) pre_S_api_Node kids_S_api_Node r18.f_Kids], .agg [.val (.int .i64 r19.f_Kind), .str r19.f_Text, .recs (α := List UInt8) [] E_string r19.f_Keys, .tree (α := S_api_Node) (S_api_Node.mk 0 [] [] []) pre_S_api_Node kids_S_api_Node r19.f_Kids]] (.val (.bool r20))), ((r20 == true) = true → CX Try.prog 25 [.agg [.val (.int .i64 a0.f_Kind), .str a0.f_Text, .recs (α := List UInt8) [] E_string a0.f_Keys, .tree (α := S_api_Node) (S_api_Node.mk 0 [] [] []) pre_S_api_Node kids_S_api_Node a0.f_Kids], .str a2] (.agg [.val (.int .i64 r21.f_Kind), .str r21.f_Text, .recs (α := List UInt8) [] E_string r21.f_Keys, .tree (α := S_api_Node) (S_api_Node.mk 0 [] [] []) pre_S_api_Node kids_S_api_Node r21.f_Kids])), ((r20 == true) = true → CX Try.prog 26 [.agg [.val (.int .i64 a0.f_Kind), .str a0.f_Text, .recs (α := List UInt8) [] E_string a0.f_Keys, .tree (α := S_api_Node) (S_api_Node.mk 0 [] [] []) pre_S_api_Node kids_S_api_Node a0.f_Kids], .str a2] (.agg [.val (.int .i64 r22.f_Kind), .str r22.f_Text, .recs (α := List UInt8) [] E_string r22.f_Keys, .tree (α := S_api_Node) (S_api_Node.mk 0 [] [] []) pre_S_api_Node kids_S_api_Node r22.f_Kids])), ((r20 == true) = true → CX Try.prog 11 [.agg [.val (.int .i64 r21.f_Kind), .str r21.f_Text, .recs (α := List UInt8) [] E_string r21.f_Keys, .tree (α := S_api_Node) (S_api_Node.mk 0 [] [] []) pre_S_api_Node kids_S_api_Node r21.f_Kids], .agg [.val (.int .i64 r22.f_Kind), .str r22.f_Text, .recs (α := List UInt8) [] E_string r22.f_Keys, .tree (α := S_api_Node) (S_api_Node.mk 0 [] [] []) pre_S_api_Node kids_S_api_Node r22.f_Kids]] (.val (.bool r23))), (((bif r20 then r23 else false) == true) = true → MkOb 4 [.val (.int .i64 a0.f_Kind), .str a0.f_Text, .recs (α := List UInt8) [] E_string a0.f_Keys, .tree (α := S_api_Node) (S_api_Node.mk 0 [] [] []) pre_S_api_Node kids_S_api_Node a0.f_Kids, .val (.int .i64 a1.f_Kind), .str a1.f_Text, .recs (α := List UInt8) [] E_string a1.f_Keys, .tree (α := S_api_Node) (S_api_Node.mk 0 [] [] []) pre_S_api_Node kids_S_api_Node a1.f_Kids] 2 (.recs (α := S_api_Node) (S_api_Node.mk 0 [] [] []) E_api_Node [a0, a1]) ∧ GoodR (.recs (α := S_api_Node) (S_api_Node.mk 0 [] [] []) E_api_Node [a0, a1])), (((bif r20 then r23 else false) == true) = true → CX Try.prog 27 [.recs (α := S_api_Node) (S_api_Node.mk 0 [] [] []) E_api_Node [a0, a1]] (.agg [.val (.int .i64 r24.f_Kind), .str r24.f_Text, .recs (α := List UInt8) [] E_string r24.f_Keys, .tree (α := S_api_Node) (S_api_Node.mk 0 [] [] []) pre_S_api_Node kids_S_api_Node r24.f_Kids])), (((bif r20 then r23 else false) == true) = true → MkOb 4 [.val (.int .i64 a0.f_Kind), .str a0.f_Text, .recs (α := List UInt8) [] E_string a0.f_Keys, .tree (α := S_api_Node) (S_api_Node.mk 0 [] [] []) pre_S_api_Node kids_S_api_Node a0.f_Kids, .val (.int .i64 a1.f_Kind), .str a1.f_Text, .recs (α := List UInt8) [] E_string a1.f_Keys, .tree (α := S_api_Node) (S_api_Node.mk 0 [] [] []) pre_S_api_Node kids_S_api_Node a1.f_Kids] 2 (.recs (α := S_api_Node) (S_api_Node.mk 0 [] [] []) E_api_Node [a0, a1]) ∧ GoodR (.recs (α := S_api_Node) (S_api_Node.mk 0 [] [] []) E_api_Node [a0, a1])), (((bif r20 then r23 else false) == true) = true → CX Try.prog 11 [.agg [.val (.int .i64 r24.f_Kind), .str r24.f_Text, .recs (α := List UInt8) [] E_string r24.f_Keys, .tree (α := S_api_Node) (S_api_Node.mk 0 [] [] []) pre_S_api_Node kids_S_api_Node r24.f_Kids], .agg [.val (.int .i64 2), .str [], .val (.slice none 0 0), .recs (α := S_api_Node) (S_api_Node.mk 0 [] [] []) E_api_Node [a0, a1]]] (.val (.bool r25))), (((bif (bif r20 then r23 else false) then r25 else false) == true) = true → CX Try.prog 7 [] (.val (.bool r26)))]) (by kernel_rfl) (AllP.cons (fun _ => cx (ok_node_With n a0 a2 a1 _ hr18)) (AllP.cons (fun _ => cx (ok_ref08_With n a0 a2 a1 _ hr19)) (AllP.cons (fun _ => cx (ok_ref08_Same n r18 r19 _ hr20)) (AllP.cons (fun hg => cx (ok_node_Less n a0 a2 _ (if_t hg hr21))) (AllP.cons (fun hg => cx (ok_ref08_Less n a0 a2 _ (if_t hg hr22))) (AllP.cons (fun hg => cx (ok_ref08_Same n r21 r22 _ (if_t hg hr23))) (AllP.cons (fun _ => mkOb (by kernel_rfl) rfl (by kernel_rfl) (good_E_api_Node _)) (AllP.cons (fun hg => cx (ok_node_Seq n [a0, a1] _ (if_t hg hr24))) (AllP.cons (fun _ => mkOb (by kernel_rfl) rfl (by kernel_rfl) (good_E_api_Node _)) (AllP.cons (fun hg => cx (callsX_args (.cons (.refl _) (.cons (.agg (.cons (.refl _) (.cons (.refl _) (.cons (.zero _ _) (.cons (.close _ _ _ _) .nil))))) .nil)) (ok_ref08_Same n r24 (S_api_Node.mk 2 [] [] [a0, a1]) _ (if_t hg hr25)))) (AllP.cons (fun hg => cx (ok_law08_awake n  _ (if_t hg hr26))) AllP.nil))))))))))) ?_
      refine To.thenN ?_
      refine Wp.ret ?_
      refine To.keep (kk := [8]) (kl := []) (K' := [(8, .val (.bool (bif (bif (bif r20 then r23 else false) then r25 else false) then r26 else false)))]) (L' := []) (by kernel_rfl) (by kernel_rfl) ?_
      cases h
      exact To.done hΓ (by kernel_rfl)
end Go.Proofs.Ytjicbelggepaiaa.M
