/-
  Part of the proof of NodePuts: M08c.
-/
import Derived.Test.YtjicbelggepaiaaQM08b
set_option linter.all false
namespace Go.Proofs.Ytjicbelggepaiaa.M
open Go.RowKit Go.Proofs.Ytjicbelggepaiaa.RX
set_option maxRecDepth 100000
theorem ok_ref08_With (n : Nat) (a0 : S_api_Node) (a1 : List UInt8) (a2 : S_api_Node) (r : S_api_Node) (h : ref08_With n a0 a1 a2 = some r) : CallsX Try.prog 24 [.agg [.val (.int .i64 a0.f_Kind), .str a0.f_Text, .recs (α := List UInt8) [] E_string a0.f_Keys, .tree (α := S_api_Node) (S_api_Node.mk 0 [] [] []) pre_S_api_Node kids_S_api_Node a0.f_Kids], .str a1, .agg [.val (.int .i64 a2.f_Kind), .str a2.f_Text, .recs (α := List UInt8) [] E_string a2.f_Keys, .tree (α := S_api_Node) (S_api_Node.mk 0 [] [] []) pre_S_api_Node kids_S_api_Node a2.f_Kids]] (.agg [.val (.int .i64 r.f_Kind), .str r.f_Text, .recs (α := List UInt8) [] E_string r.f_Keys, .tree (α := S_api_Node) (S_api_Node.mk 0 [] [] []) pre_S_api_Node kids_S_api_Node r.f_Kids]) := by
  unfold ref08_With at h
  refine callsX_of (fn := Try.f24) (by kernel_rfl) rfl (by kernel_rfl) (Nat.le_of_ble_eq_true (by kernel_rfl)) fun F0 w0 _ => ?_
  refine Wp.keep (kk := [0, 1, 2]) (kl := []) (K' := [(0, .agg [.val (.int .i64 a0.f_Kind), .str a0.f_Text, .recs (α := List UInt8) [] E_string a0.f_Keys, .tree (α := S_api_Node) (S_api_Node.mk 0 [] [] []) pre_S_api_Node kids_S_api_Node a0.f_Kids]), (1, .str a1), (2, .agg [.val (.int .i64 a2.f_Kind), .str a2.f_Text, .recs (α := List UInt8) [] E_string a2.f_Keys, .tree (α := S_api_Node) (S_api_Node.mk 0 [] [] []) pre_S_api_Node kids_S_api_Node a2.f_Kids])]) (L' := []) (by kernel_rfl) (by kernel_rfl) ?_
  refine Wp.seq ?_
  refine Wp.region hΓ [] [] [] [1, 3, 5, 6] [3, 5, 6] (K' := [(1, .str a1), (3, .own 3 0), (5, .own 5 0), (6, .own 6 0)]) (L' := [(3, 25, [.val (.int .i64 a0.f_Kind), .str a0.f_Text, .recs (α := List UInt8) [] E_string a0.f_Keys, .tree (α := S_api_Node) (S_api_Node.mk 0 [] [] []) pre_S_api_Node kids_S_api_Node a0.f_Kids]), (5, 25, [.val (.int .i64 a2.f_Kind), .str a2.f_Text, .recs (α := List UInt8) [] E_string a2.f_Keys, .tree (α := S_api_Node) (S_api_Node.mk 0 [] [] []) pre_S_api_Node kids_S_api_Node a2.f_Kids]), (6, 25, [.val (.int .i64 0), .str [], .val (.slice none 0 0), .val (.slice none 0 0)])]) (ob := []) (by kernel_rfl) AllP.nil ?_
  refine To.thenN ?_
  refine Wp.seq ?_
  refine Wp.seq ?_
  refine Wp.region hΓ [] [] [] [1, 3, 5, 6, 17] [3, 5, 6] (K' := [(1, .str a1), (3, .own 3 0), (5, .own 5 0), (6, .own 6 0), (17, .val (.bool (bif (a0.f_Kind != 0) then (a0.f_Kind != 3) else false)))]) (L' := [(3, 25, [.val (.int .i64 a0.f_Kind), .str a0.f_Text, .recs (α := List UInt8) [] E_string a0.f_Keys, .tree (α := S_api_Node) (S_api_Node.mk 0 [] [] []) pre_S_api_Node kids_S_api_Node a0.f_Kids]), (5, 25, [.val (.int .i64 a2.f_Kind), .str a2.f_Text, .recs (α := List UInt8) [] E_string a2.f_Keys, .tree (α := S_api_Node) (S_api_Node.mk 0 [] [] []) pre_S_api_Node kids_S_api_Node a2.f_Kids]), (6, 25, [.val (.int .i64 0), .str [], .val (.slice none 0 0), .val (.slice none 0 0)])]) (ob := []) (by kernel_rfl) AllP.nil ?_
  refine To.thenN ?_
  refine Wp.cond (b := (bif (a0.f_Kind != 0) then (a0.f_Kind != 3) else false)) (by kernel_rfl) (fun hb => ?_) (fun hb => ?_)
  · replace h := if_t hb h
    refine Wp.seq ?_
    refine Wp.region hΓ [] [] [] [6] [6] (K' := [(6, .own 6 0)]) (L' := [(6, 25, [.val (.int .i64 a0.f_Kind), .str a0.f_Text, .recs (α := List UInt8) [] E_string a0.f_Keys, .tree (α := S_api_Node) (S_api_Node.mk 0 [] [] []) pre_S_api_Node kids_S_api_Node a0.f_Kids])]) (ob := []) (by kernel_rfl) AllP.nil ?_
    refine To.thenN ?_
    refine Wp.ret ?_
    refine To.thenR ?_
    refine To.keep (kk := [6]) (kl := [6]) (K' := [(6, .own 6 0)]) (L' := [(6, 25, [.val (.int .i64 a0.f_Kind), .str a0.f_Text, .recs (α := List UInt8) [] E_string a0.f_Keys, .tree (α := S_api_Node) (S_api_Node.mk 0 [] [] []) pre_S_api_Node kids_S_api_Node a0.f_Kids])]) (by kernel_rfl) (by kernel_rfl) ?_
    cases h
    exact To.done hΓ (by kernel_rfl)
  · replace h := if_f hb h
    refine Wp.skip ?_
    refine To.thenN ?_
    refine Wp.seq ?_
    refine Wp.region hΓ [] [] [] [1, 3, 5, 6, 7] [3, 5, 6, 7] (K' := [(1, .str a1), (3, .own 3 0), (5, .own 5 0), (6, .own 6 0), (7, .own 7 0)]) (L' := [(3, 25, [.val (.int .i64 a0.f_Kind), .str a0.f_Text, .recs (α := List UInt8) [] E_string a0.f_Keys, .tree (α := S_api_Node) (S_api_Node.mk 0 [] [] []) pre_S_api_Node kids_S_api_Node a0.f_Kids]), (5, 25, [.val (.int .i64 a2.f_Kind), .str a2.f_Text, .recs (α := List UInt8) [] E_string a2.f_Keys, .tree (α := S_api_Node) (S_api_Node.mk 0 [] [] []) pre_S_api_Node kids_S_api_Node a2.f_Kids]), (6, 25, [.val (.int .i64 0), .str [], .val (.slice none 0 0), .val (.slice none 0 0)]), (7, 25, [.val (.int .i64 3), .str [], .val (.slice none 0 0), .val (.slice none 0 0)])]) (ob := []) (by kernel_rfl) AllP.nil ?_
    refine To.thenN ?_
    refine Wp.seq ?_
    refine Wp.region hΓ [] [] [] [1, 3, 5, 6, 7, 8] [3, 5, 6, 7] (K' := [(1, .str a1), (3, .own 3 0), (5, .own 5 0), (6, .own 6 0), (7, .own 7 0), (8, .val (.bool false))]) (L' := [(3, 25, [.val (.int .i64 a0.f_Kind), .str a0.f_Text, .recs (α := List UInt8) [] E_string a0.f_Keys, .tree (α := S_api_Node) (S_api_Node.mk 0 [] [] []) pre_S_api_Node kids_S_api_Node a0.f_Kids]), (5, 25, [.val (.int .i64 a2.f_Kind), .str a2.f_Text, .recs (α := List UInt8) [] E_string a2.f_Keys, .tree (α := S_api_Node) (S_api_Node.mk 0 [] [] []) pre_S_api_Node kids_S_api_Node a2.f_Kids]), (6, 25, [.val (.int .i64 0), .str [], .val (.slice none 0 0), .val (.slice none 0 0)]), (7, 25, [.val (.int .i64 3), .str [], .val (.slice none 0 0), .val (.slice none 0 0)])]) (ob := []) (by kernel_rfl) AllP.nil ?_
    refine To.thenN ?_
    refine Wp.seq ?_
    refine Wp.seq ?_
    refine Wp.region hΓ [] [] [] [1, 3, 5, 6, 7, 8, 9] [3, 5, 6, 7] (K' := [(1, .str a1), (3, .own 3 0), (5, .own 5 0), (6, .own 6 0), (7, .own 7 0), (8, .val (.bool false)), (9, .val (.int .i64 0))]) (L' := [(3, 25, [.val (.int .i64 a0.f_Kind), .str a0.f_Text, .recs (α := List UInt8) [] E_string a0.f_Keys, .tree (α := S_api_Node) (S_api_Node.mk 0 [] [] []) pre_S_api_Node kids_S_api_Node a0.f_Kids]), (5, 25, [.val (.int .i64 a2.f_Kind), .str a2.f_Text, .recs (α := List UInt8) [] E_string a2.f_Keys, .tree (α := S_api_Node) (S_api_Node.mk 0 [] [] []) pre_S_api_Node kids_S_api_Node a2.f_Kids]), (6, 25, [.val (.int .i64 0), .str [], .val (.slice none 0 0), .val (.slice none 0 0)]), (7, 25, [.val (.int .i64 3), .str [], .val (.slice none 0 0), .val (.slice none 0 0)])]) (ob := []) (by kernel_rfl) AllP.nil ?_
    refine To.thenN ?_
    refine Wp.block ?_
    obtain ⟨o1, ho1, h⟩ := bind_of h
    refine Wp.keep (kk := [1, 3, 5, 6, 7, 8, 9]) (kl := [3, 5, 6, 7]) (K' := [(1, .str a1), (3, .own 3 0), (5, .own 5 0), (6, .own 6 0), (7, .own 7 0), (8, .val (.bool false)), (9, .val (.int .i64 0))]) (L' := [(3, 25, [.val (.int .i64 a0.f_Kind), .str a0.f_Text, .recs (α := List UInt8) [] E_string a0.f_Keys, .tree (α := S_api_Node) (S_api_Node.mk 0 [] [] []) pre_S_api_Node kids_S_api_Node a0.f_Kids]), (5, 25, [.val (.int .i64 a2.f_Kind), .str a2.f_Text, .recs (α := List UInt8) [] E_string a2.f_Keys, .tree (α := S_api_Node) (S_api_Node.mk 0 [] [] []) pre_S_api_Node kids_S_api_Node a2.f_Kids]), (6, 25, [.val (.int .i64 0), .str [], .val (.slice none 0 0), .val (.slice none 0 0)]), (7, 25, [.val (.int .i64 3), .str [], .val (.slice none 0 0), .val (.slice none 0 0)])]) (by kernel_rfl) (by kernel_rfl) ?_
    refine Wp.pre (St.vacantB 7 2 4422 9 (good_E_string _) (by decide) (by kernel_rfl) (L' := [(3, 25, [.val (.int .i64 a0.f_Kind), .str a0.f_Text, .recs (α := List UInt8) [] E_string a0.f_Keys, .tree (α := S_api_Node) (S_api_Node.mk 0 [] [] []) pre_S_api_Node kids_S_api_Node a0.f_Kids]), (5, 25, [.val (.int .i64 a2.f_Kind), .str a2.f_Text, .recs (α := List UInt8) [] E_string a2.f_Keys, .tree (α := S_api_Node) (S_api_Node.mk 0 [] [] []) pre_S_api_Node kids_S_api_Node a2.f_Kids]), (6, 25, [.val (.int .i64 0), .str [], .val (.slice none 0 0), .val (.slice none 0 0)]), (7, 25, [.val (.int .i64 3), .str [], .row 4422, .val (.slice none 0 0)])]) (by kernel_rfl)) ?_
    refine Wp.keep (kk := [1, 3, 5, 6, 7, 8, 9]) (kl := [3, 5, 6, 7, 4422]) (K' := [(1, .str a1), (3, .own 3 0), (5, .own 5 0), (6, .own 6 0), (7, .own 7 0), (8, .val (.bool false)), (9, .val (.int .i64 0))]) (L' := [(3, 25, [.val (.int .i64 a0.f_Kind), .str a0.f_Text, .recs (α := List UInt8) [] E_string a0.f_Keys, .tree (α := S_api_Node) (S_api_Node.mk 0 [] [] []) pre_S_api_Node kids_S_api_Node a0.f_Kids]), (5, 25, [.val (.int .i64 a2.f_Kind), .str a2.f_Text, .recs (α := List UInt8) [] E_string a2.f_Keys, .tree (α := S_api_Node) (S_api_Node.mk 0 [] [] []) pre_S_api_Node kids_S_api_Node a2.f_Kids]), (6, 25, [.val (.int .i64 0), .str [], .val (.slice none 0 0), .val (.slice none 0 0)]), (7, 25, [.val (.int .i64 3), .str [], .row 4422, .val (.slice none 0 0)]), (4422, 9, [.rowc false (α := List UInt8) [] E_string []])]) (by kernel_rfl) (by kernel_rfl) ?_
    refine Wp.pre (St.vacantB 7 3 4423 25 (good_E_api_Node _) (by decide) (by kernel_rfl) (L' := [(3, 25, [.val (.int .i64 a0.f_Kind), .str a0.f_Text, .recs (α := List UInt8) [] E_string a0.f_Keys, .tree (α := S_api_Node) (S_api_Node.mk 0 [] [] []) pre_S_api_Node kids_S_api_Node a0.f_Kids]), (5, 25, [.val (.int .i64 a2.f_Kind), .str a2.f_Text, .recs (α := List UInt8) [] E_string a2.f_Keys, .tree (α := S_api_Node) (S_api_Node.mk 0 [] [] []) pre_S_api_Node kids_S_api_Node a2.f_Kids]), (6, 25, [.val (.int .i64 0), .str [], .val (.slice none 0 0), .val (.slice none 0 0)]), (7, 25, [.val (.int .i64 3), .str [], .row 4422, .row 4423]), (4422, 9, [.rowc false (α := List UInt8) [] E_string []])]) (by kernel_rfl)) ?_
    refine Wp.keep (kk := [1, 3, 5, 6, 7, 8, 9]) (kl := [3, 5, 6, 7, 4422, 4423]) (K' := [(1, .str a1), (3, .own 3 0), (5, .own 5 0), (6, .own 6 0), (7, .own 7 0), (8, .val (.bool false)), (9, .val (.int .i64 0))]) (L' := [(3, 25, [.val (.int .i64 a0.f_Kind), .str a0.f_Text, .recs (α := List UInt8) [] E_string a0.f_Keys, .tree (α := S_api_Node) (S_api_Node.mk 0 [] [] []) pre_S_api_Node kids_S_api_Node a0.f_Kids]), (5, 25, [.val (.int .i64 a2.f_Kind), .str a2.f_Text, .recs (α := List UInt8) [] E_string a2.f_Keys, .tree (α := S_api_Node) (S_api_Node.mk 0 [] [] []) pre_S_api_Node kids_S_api_Node a2.f_Kids]), (6, 25, [.val (.int .i64 0), .str [], .val (.slice none 0 0), .val (.slice none 0 0)]), (7, 25, [.val (.int .i64 3), .str [], .row 4422, .row 4423]), (4422, 9, [.rowc false (α := List UInt8) [] E_string []]), (4423, 25, [.rowc false (α := S_api_Node) (S_api_Node.mk 0 [] [] []) E_api_Node []])]) (by kernel_rfl) (by kernel_rfl) ?_
    refine Wp.weak (K' := [(1, .str a1), (3, .own 3 0), (5, .own 5 0), (6, .own 6 0), (7, .own 7 0), (8, .val (.bool false)), (9, .val (.int .i64 0))]) (L' := [(3, 25, [.val (.int .i64 a0.f_Kind), .str a0.f_Text, .recs (α := List UInt8) [] E_string a0.f_Keys, .tree (α := S_api_Node) (S_api_Node.mk 0 [] [] []) pre_S_api_Node kids_S_api_Node a0.f_Kids]), (5, 25, [.val (.int .i64 a2.f_Kind), .str a2.f_Text, .recs (α := List UInt8) [] E_string a2.f_Keys, .tree (α := S_api_Node) (S_api_Node.mk 0 [] [] []) pre_S_api_Node kids_S_api_Node a2.f_Kids]), (6, 25, [.val (.int .i64 0), .str [], .recs (α := List UInt8) [] E_string [], .tree (α := S_api_Node) (S_api_Node.mk 0 [] [] []) pre_S_api_Node kids_S_api_Node []]), (7, 25, [.val (.int .i64 3), .str [], .row 4422, .row 4423]), (4422, 9, [.rowc false (α := List UInt8) [] E_string []]), (4423, 25, [.rowc false (α := S_api_Node) (S_api_Node.mk 0 [] [] []) E_api_Node []])]) (.cons (.refl _) (.cons (.refl _) (.cons (.refl _) (.cons (.refl _) (.cons (.refl _) (.cons (.refl _) (.cons (.refl _) .nil))))))) (.cons (.cons (.refl _) (.cons (.refl _) (.cons (.refl _) (.cons (.refl _) .nil)))) (.cons (.cons (.refl _) (.cons (.refl _) (.cons (.refl _) (.cons (.refl _) .nil)))) (.cons (.cons (.refl _) (.cons (.refl _) (.cons (.zero _ _) (.cons (.zeroT _ _ _) .nil)))) (.cons (.cons (.refl _) (.cons (.refl _) (.cons (.refl _) (.cons (.refl _) .nil)))) (.cons (.cons (.refl _) .nil) (.cons (.cons (.refl _) .nil) .nil)))))) ?_
    refine Wp.loopL ?_
    refine ok_ref08_With_l1 n a1 a0 a2 (S_api_Node.mk 0 [] [] []) n false 0 (S_api_Node.mk 3 [] [] []) o1 ho1 ?_
    refine To.blockX ?_
    refine To.thenN ?_
    refine Wp.seq ?_
    refine Wp.seq ?_
    refine Wp.region hΓ [] [] [] [1, 5, 6, 7, 61] [5, 6, 7, 4422, 4423] (K' := [(1, .str a1), (5, .own 5 0), (6, .own 6 0), (7, .own 7 0), (61, .val (.bool (!o1.1)))]) (L' := [(5, 25, [.val (.int .i64 a2.f_Kind), .str a2.f_Text, .recs (α := List UInt8) [] E_string a2.f_Keys, .tree (α := S_api_Node) (S_api_Node.mk 0 [] [] []) pre_S_api_Node kids_S_api_Node a2.f_Kids]), (6, 25, [.val (.int .i64 0), .str [], .recs (α := List UInt8) [] E_string [], .tree (α := S_api_Node) (S_api_Node.mk 0 [] [] []) pre_S_api_Node kids_S_api_Node []]), (7, 25, [.val (.int .i64 o1.2.f_Kind), .str o1.2.f_Text, .row 4422, .row 4423]), (4422, 9, [.rowc false (α := List UInt8) [] E_string o1.2.f_Keys]), (4423, 25, [.rowc false (α := S_api_Node) (S_api_Node.mk 0 [] [] []) E_api_Node o1.2.f_Kids])]) (ob := []) (by kernel_rfl) AllP.nil ?_
    refine To.thenN ?_
    obtain ⟨o2, ho2, h⟩ := bind_of h
    refine Wp.keep (kk := [1, 5, 6, 7, 61]) (kl := [5, 6, 7, 4422, 4423]) (K' := [(1, .str a1), (5, .own 5 0), (6, .own 6 0), (7, .own 7 0), (61, .val (.bool (!o1.1)))]) (L' := [(5, 25, [.val (.int .i64 a2.f_Kind), .str a2.f_Text, .recs (α := List UInt8) [] E_string a2.f_Keys, .tree (α := S_api_Node) (S_api_Node.mk 0 [] [] []) pre_S_api_Node kids_S_api_Node a2.f_Kids]), (6, 25, [.val (.int .i64 0), .str [], .recs (α := List UInt8) [] E_string [], .tree (α := S_api_Node) (S_api_Node.mk 0 [] [] []) pre_S_api_Node kids_S_api_Node []]), (7, 25, [.val (.int .i64 o1.2.f_Kind), .str o1.2.f_Text, .row 4422, .row 4423]), (4422, 9, [.rowc false (α := List UInt8) [] E_string o1.2.f_Keys]), (4423, 25, [.rowc false (α := S_api_Node) (S_api_Node.mk 0 [] [] []) E_api_Node o1.2.f_Kids])]) (by kernel_rfl) (by kernel_rfl) ?_
    refine ok_ref08_With_j3 n a1 (!o1.1) a2 (S_api_Node.mk 0 [] [] []) o1.2 o2 ho2 ?_
    refine To.thenN ?_
    refine Wp.seq ?_
    refine Wp.region hΓ [] [] [] [6] [6, 4422, 4423] (K' := [(6, .own 6 0)]) (L' := [(6, 25, [.val (.int .i64 o2.f_Kind), .str o2.f_Text, .row 4422, .row 4423]), (4422, 9, [.rowc false (α := List UInt8) [] E_string o2.f_Keys]), (4423, 25, [.rowc false (α := S_api_Node) (S_api_Node.mk 0 [] [] []) E_api_Node o2.f_Kids])]) (ob := []) (by kernel_rfl) AllP.nil ?_
    refine To.thenN ?_
    refine Wp.ret ?_
    refine To.keep (kk := [6]) (kl := [6, 4422, 4423]) (K' := [(6, .own 6 0)]) (L' := [(6, 25, [.val (.int .i64 o2.f_Kind), .str o2.f_Text, .row 4422, .row 4423]), (4422, 9, [.rowc false (α := List UInt8) [] E_string o2.f_Keys]), (4423, 25, [.rowc false (α := S_api_Node) (S_api_Node.mk 0 [] [] []) E_api_Node o2.f_Kids])]) (by kernel_rfl) (by kernel_rfl) ?_
    refine To.pre (St.settle (ks := [4422, 4423]) (kk := [6]) (kl := [6, 4422, 4423]) (K' := [(6, .own 6 0)]) (L' := [(6, 25, [.val (.int .i64 o2.f_Kind), .str o2.f_Text, .row 4422, .row 4423]), (4422, 9, [.rowc true (α := List UInt8) [] E_string o2.f_Keys]), (4423, 25, [.rowc true (α := S_api_Node) (S_api_Node.mk 0 [] [] []) E_api_Node o2.f_Kids])]) (by kernel_rfl)) ?_
    refine To.pre (St.sealB [6] (L' := [(6, 25, [.val (.int .i64 o2.f_Kind), .str o2.f_Text, .recs (α := List UInt8) [] E_string o2.f_Keys, .recs (α := S_api_Node) (S_api_Node.mk 0 [] [] []) E_api_Node o2.f_Kids]), (4422, 9, [.rowc true (α := List UInt8) [] E_string o2.f_Keys]), (4423, 25, [.rowc true (α := S_api_Node) (S_api_Node.mk 0 [] [] []) E_api_Node o2.f_Kids])]) (by kernel_rfl)) ?_
    refine To.weak (K' := [(6, .own 6 0)]) (L' := [(6, 25, [.val (.int .i64 o2.f_Kind), .str o2.f_Text, .recs (α := List UInt8) [] E_string o2.f_Keys, .tree (α := S_api_Node) (S_api_Node.mk 0 [] [] []) pre_S_api_Node kids_S_api_Node o2.f_Kids]), (4422, 9, [.rowc true (α := List UInt8) [] E_string o2.f_Keys]), (4423, 25, [.rowc true (α := S_api_Node) (S_api_Node.mk 0 [] [] []) E_api_Node o2.f_Kids])]) (.cons (.refl _) .nil) (.cons (.cons (.refl _) (.cons (.refl _) (.cons (.refl _) (.cons (.close _ _ _ _) .nil)))) (.cons (.cons (.refl _) .nil) (.cons (.cons (.refl _) .nil) .nil))) ?_
    refine To.keep (kk := [6]) (kl := [6]) (K' := [(6, .own 6 0)]) (L' := [(6, 25, [.val (.int .i64 o2.f_Kind), .str o2.f_Text, .recs (α := List UInt8) [] E_string o2.f_Keys, .tree (α := S_api_Node) (S_api_Node.mk 0 [] [] []) pre_S_api_Node kids_S_api_Node o2.f_Kids])]) (by kernel_rfl) (by kernel_rfl) ?_
    cases h
    exact To.done hΓ (by kernel_rfl)
def E_Lstring : List (List UInt8) → List D := fun x => [.recs (α := List UInt8) [] E_string x]
def slices_Concat_string_string_j2 (n : Nat) (v0 : List (List (List UInt8))) (v3 : Int) (v9 : List (List (List UInt8))) (v10 : Int) (v11 : Int) : Option (Int) :=
  if (decide (0 ≤ v11 ∧ v11 < (List.length v9 : Int))) = true then (if (decide ((IntKind.wrap .i64 (v3 + (List.length ((v9)[Int.toNat v11]?.getD []) : Int))) < 0)) = true then none
  else (some (IntKind.wrap .i64 (v3 + (List.length ((v9)[Int.toNat v11]?.getD []) : Int))))) else none
theorem ok_slices_Concat_string_string_j2 (n : Nat) (v0 : List (List (List UInt8))) (v3 : Int) (v9 : List (List (List UInt8))) (v10 : Int) (v11 : Int) (o : Int) (h : slices_Concat_string_string_j2 n v0 v3 v9 v10 v11 = some o) {F0 : Fz} {w0 : Pt Try.prog} {Q : Exit → Act → World → Prop} (hQ : To 36 F0 w0 [(0, .recs (α := List (List UInt8)) [] E_Lstring v0), (3, .val (.int .i64 o)), (9, .recs (α := List (List UInt8)) [] E_Lstring v9), (10, .val (.int .i64 v10)), (11, .val (.int .i64 v11))] [] .normal Q) : Wp Try.prog 36 F0 w0 [(0, .recs (α := List (List UInt8)) [] E_Lstring v0), (3, .val (.int .i64 v3)), (9, .recs (α := List (List UInt8)) [] E_Lstring v9), (10, .val (.int .i64 v10)), (11, .val (.int .i64 v11))] [] (cA (cB (cB (cI (cI (cB (cA (cB (cB (cF Try.f44)))))))))) Q := by
  unfold slices_Concat_string_string_j2 at h
  refine Wp.block ?_
  refine Wp.seq ?_
  obtain ⟨hc1, h⟩ := chk_of h
  refine Wp.region hΓ [] [] [] [0, 3, 5, 9, 10, 11] [] (K' := [(0, .recs (α := List (List UInt8)) [] E_Lstring v0), (3, .val (.int .i64 v3)), (5, .recs (α := List UInt8) [] E_string ((v9)[Int.toNat v11]?.getD [])), (9, .recs (α := List (List UInt8)) [] E_Lstring v9), (10, .val (.int .i64 v10)), (11, .val (.int .i64 v11))]) (L' := []) (ob := [(decide (0 ≤ v11 ∧ v11 < (List.length v9 : Int))) = true]) (by kernel_rfl) (AllP.cons hc1 AllP.nil) ?_
  refine To.thenN ?_
  refine Wp.seq ?_
  refine Wp.region hΓ [] [] [] [0, 3, 9, 10, 11] [] (K' := [(0, .recs (α := List (List UInt8)) [] E_Lstring v0), (3, .val (.int .i64 (IntKind.wrap .i64 (v3 + (List.length ((v9)[Int.toNat v11]?.getD []) : Int))))), (9, .recs (α := List (List UInt8)) [] E_Lstring v9), (10, .val (.int .i64 v10)), (11, .val (.int .i64 v11))]) (L' := []) (ob := []) (by kernel_rfl) AllP.nil ?_
  refine To.thenN ?_
  refine Wp.seq ?_
  refine Wp.region hΓ [] [] [] [0, 3, 9, 10, 11, 20] [] (K' := [(0, .recs (α := List (List UInt8)) [] E_Lstring v0), (3, .val (.int .i64 (IntKind.wrap .i64 (v3 + (List.length ((v9)[Int.toNat v11]?.getD []) : Int))))), (9, .recs (α := List (List UInt8)) [] E_Lstring v9), (10, .val (.int .i64 v10)), (11, .val (.int .i64 v11)), (20, .val (.bool (decide ((IntKind.wrap .i64 (v3 + (List.length ((v9)[Int.toNat v11]?.getD []) : Int))) < 0))))]) (L' := []) (ob := []) (by kernel_rfl) AllP.nil ?_
  refine To.thenN ?_
  refine Wp.cond (b := (decide ((IntKind.wrap .i64 (v3 + (List.length ((v9)[Int.toNat v11]?.getD []) : Int))) < 0))) (by kernel_rfl) (fun hb => ?_) (fun hb => ?_)
  · replace h := if_t hb h
    cases h
  · replace h := if_f hb h
    refine Wp.skip ?_
    refine To.blockN ?_
    refine To.keep (kk := [0, 3, 9, 10, 11]) (kl := []) (K' := [(0, .recs (α := List (List UInt8)) [] E_Lstring v0), (3, .val (.int .i64 (IntKind.wrap .i64 (v3 + (List.length ((v9)[Int.toNat v11]?.getD []) : Int))))), (9, .recs (α := List (List UInt8)) [] E_Lstring v9), (10, .val (.int .i64 v10)), (11, .val (.int .i64 v11))]) (L' := []) (by kernel_rfl) (by kernel_rfl) ?_
    cases h
    exact hQ
def slices_Concat_string_string_l1 (n : Nat) (v0 : List (List (List UInt8))) (v9 : List (List (List UInt8))) (v10 : Int) : Nat → Int → Int → Option (Int)
  | 0, _, _ => none
  | k + 1, v3, v11 => if (decide (v11 < v10)) = true then ((slices_Concat_string_string_j2 n v0 v3 v9 v10 v11).bind fun o1 =>
  slices_Concat_string_string_l1 n v0 v9 v10 k o1 (IntKind.wrap .i64 (v11 + 1)))
  else some v3
theorem ok_slices_Concat_string_string_l1 (n : Nat) (v0 : List (List (List UInt8))) (v9 : List (List (List UInt8))) (v10 : Int) {F0 : Fz} {w0 : Pt Try.prog} {Q : Exit → Act → World → Prop} (k : Nat) : ∀ (v3 : Int) (v11 : Int) (o : Int), slices_Concat_string_string_l1 n v0 v9 v10 k v3 v11 = some o → To 36 F0 w0 [(0, .recs (α := List (List UInt8)) [] E_Lstring v0), (3, .val (.int .i64 o))] [] (.exit 0) Q → WL Try.prog 36 F0 w0 [(0, .recs (α := List (List UInt8)) [] E_Lstring v0), (3, .val (.int .i64 v3)), (9, .recs (α := List (List UInt8)) [] E_Lstring v9), (10, .val (.int .i64 v10)), (11, .val (.int .i64 v11))] [] (cI (cI (cB (cA (cB (cB (cF Try.f44))))))) Q := by
  induction k with
  | zero => intro v3 v11 o h; cases h
  | succ k ih =>
    intro v3 v11 o h hQ
    rw [slices_Concat_string_string_l1] at h
    refine WL.round ?_
    refine Wp.seq ?_
    refine Wp.region hΓ [] [] [] [0, 3, 9, 10, 11, 12] [] (K' := [(0, .recs (α := List (List UInt8)) [] E_Lstring v0), (3, .val (.int .i64 v3)), (9, .recs (α := List (List UInt8)) [] E_Lstring v9), (10, .val (.int .i64 v10)), (11, .val (.int .i64 v11)), (12, .val (.bool (decide (v11 < v10))))]) (L' := []) (ob := []) (by kernel_rfl) AllP.nil ?_
    refine To.thenN ?_
    refine Wp.seq ?_
    refine Wp.cond (b := (decide (v11 < v10))) (by kernel_rfl) (fun hb => ?_) (fun hb => ?_)
    · replace h := if_t hb h
      refine Wp.skip ?_
      refine To.thenN ?_
      refine Wp.seq ?_
      obtain ⟨o1, ho1, h⟩ := bind_of h
      refine Wp.keep (kk := [0, 3, 9, 10, 11]) (kl := []) (K' := [(0, .recs (α := List (List UInt8)) [] E_Lstring v0), (3, .val (.int .i64 v3)), (9, .recs (α := List (List UInt8)) [] E_Lstring v9), (10, .val (.int .i64 v10)), (11, .val (.int .i64 v11))]) (L' := []) (by kernel_rfl) (by kernel_rfl) ?_
      refine ok_slices_Concat_string_string_j2 n v0 v3 v9 v10 v11 o1 ho1 ?_
      refine To.thenN ?_
      refine Wp.region hΓ [] [] [] [0, 3, 9, 10, 11] [] (K' := [(0, .recs (α := List (List UInt8)) [] E_Lstring v0), (3, .val (.int .i64 o1)), (9, .recs (α := List (List UInt8)) [] E_Lstring v9), (10, .val (.int .i64 v10)), (11, .val (.int .i64 (IntKind.wrap .i64 (v11 + 1))))]) (L' := []) (ob := []) (by kernel_rfl) AllP.nil ?_
      refine To.keep (kk := [0, 3, 9, 10, 11]) (kl := []) (K' := [(0, .recs (α := List (List UInt8)) [] E_Lstring v0), (3, .val (.int .i64 o1)), (9, .recs (α := List (List UInt8)) [] E_Lstring v9), (10, .val (.int .i64 v10)), (11, .val (.int .i64 (IntKind.wrap .i64 (v11 + 1))))]) (L' := []) (by kernel_rfl) (by kernel_rfl) ?_
      refine To.again ?_
      exact ih o1 (IntKind.wrap .i64 (v11 + 1)) _ h hQ
    · replace h := if_f hb h
      refine Wp.exit ?_
      refine To.thenX ?_
      refine To.thenX ?_
      refine To.keep (kk := [0, 3]) (kl := []) (K' := [(0, .recs (α := List (List UInt8)) [] E_Lstring v0), (3, .val (.int .i64 v3))]) (L' := []) (by kernel_rfl) (by kernel_rfl) ?_
      cases h
      exact hQ
def slices_Concat_string_string_l3 (n : Nat) (v25 : List (List (List UInt8))) (v26 : Int) : Nat → (List (List UInt8)) → Int → Option ((List (List UInt8)))
  | 0, _, _ => none
  | k + 1, v6, v27 => if (decide (v27 < v26)) = true then (if (decide (0 ≤ v27 ∧ v27 < (List.length v25 : Int))) = true then (if (decide ((List.length v6 + List.length ((v25)[Int.toNat v27]?.getD [])) * (16 + 1) ≤ limit)) = true then (slices_Concat_string_string_l3 n v25 v26 k (v6 ++ ((v25)[Int.toNat v27]?.getD [])) (IntKind.wrap .i64 (v27 + 1))) else none) else none)
  else some v6
theorem ok_slices_Concat_string_string_l3 (n : Nat) (v25 : List (List (List UInt8))) (v26 : Int) {F0 : Fz} {w0 : Pt Try.prog} {Q : Exit → Act → World → Prop} (k : Nat) : ∀ (v6 : List (List UInt8)) (v27 : Int) (o : (List (List UInt8))), slices_Concat_string_string_l3 n v25 v26 k v6 v27 = some o → To 36 F0 w0 [(6, .row 1006)] [(1006, 9, [.rowc false (α := List UInt8) [] E_string o])] (.exit 2) Q → WL Try.prog 36 F0 w0 [(6, .row 1006), (25, .recs (α := List (List UInt8)) [] E_Lstring v25), (26, .val (.int .i64 v26)), (27, .val (.int .i64 v27))] [(1006, 9, [.rowc false (α := List UInt8) [] E_string v6])] (cI (cI (cB (cA (cB (cB (cB (cB (cF Try.f44))))))))) Q := by
  induction k with
  | zero => intro v6 v27 o h; cases h
  | succ k ih =>
    intro v6 v27 o h hQ
    rw [slices_Concat_string_string_l3] at h
    refine WL.round ?_
    refine Wp.seq ?_
    refine Wp.region hΓ [] [] [] [6, 25, 26, 27, 28] [1006] (K' := [(6, .row 1006), (25, .recs (α := List (List UInt8)) [] E_Lstring v25), (26, .val (.int .i64 v26)), (27, .val (.int .i64 v27)), (28, .val (.bool (decide (v27 < v26))))]) (L' := [(1006, 9, [.rowc false (α := List UInt8) [] E_string v6])]) (ob := []) (by kernel_rfl) AllP.nil ?_
    refine To.thenN ?_
    refine Wp.seq ?_
    refine Wp.cond (b := (decide (v27 < v26))) (by kernel_rfl) (fun hb => ?_) (fun hb => ?_)
    · replace h := if_t hb h
      refine Wp.skip ?_
      refine To.thenN ?_
      refine Wp.seq ?_
      refine Wp.block ?_
      refine Wp.seq ?_
      obtain ⟨hc4, h⟩ := chk_of h
      refine Wp.region hΓ [] [] [] [6, 8, 25, 26, 27] [1006] (K' := [(6, .row 1006), (8, .recs (α := List UInt8) [] E_string ((v25)[Int.toNat v27]?.getD [])), (25, .recs (α := List (List UInt8)) [] E_Lstring v25), (26, .val (.int .i64 v26)), (27, .val (.int .i64 v27))]) (L' := [(1006, 9, [.rowc false (α := List UInt8) [] E_string v6])]) (ob := [(decide (0 ≤ v27 ∧ v27 < (List.length v25 : Int))) = true]) (by kernel_rfl) (AllP.cons hc4 AllP.nil) ?_
      refine To.thenN ?_
      obtain ⟨hc3, h⟩ := chk_of h
      refine Wp.region hΓ [] [(2, .recs (α := List UInt8) [] E_string (v6 ++ ((v25)[Int.toNat v27]?.getD [])))] [] [6, 25, 26, 27] [33] (K' := [(6, .row 33), (25, .recs (α := List (List UInt8)) [] E_Lstring v25), (26, .val (.int .i64 v26)), (27, .val (.int .i64 v27))]) (L' := [(33, 9, [.rowc false (α := List UInt8) [] E_string (v6 ++ ((v25)[Int.toNat v27]?.getD []))])]) (ob := [(decide ((List.length v6 + List.length ((v25)[Int.toNat v27]?.getD [])) * (16 + 1) ≤ limit)) = true, (AppOb [] E_string v6 (List.flatMap E_string ((v25)[Int.toNat v27]?.getD [])) (List.length ((v25)[Int.toNat v27]?.getD [])) (.recs (α := List UInt8) [] E_string (v6 ++ ((v25)[Int.toNat v27]?.getD []))) ∧ GoodR (.recs (α := List UInt8) [] E_string (v6 ++ ((v25)[Int.toNat v27]?.getD []))))]) (by kernel_rfl) (AllP.cons hc3 (AllP.cons (appOb rfl rfl (good_E_string _)) AllP.nil)) ?_
      refine To.blockN ?_
      refine To.thenN ?_
      refine Wp.region hΓ [] [] [] [6, 25, 26, 27] [33] (K' := [(6, .row 33), (25, .recs (α := List (List UInt8)) [] E_Lstring v25), (26, .val (.int .i64 v26)), (27, .val (.int .i64 (IntKind.wrap .i64 (v27 + 1))))]) (L' := [(33, 9, [.rowc false (α := List UInt8) [] E_string (v6 ++ ((v25)[Int.toNat v27]?.getD []))])]) (ob := []) (by kernel_rfl) AllP.nil ?_
      refine To.keep (kk := [6, 25, 26, 27]) (kl := [33]) (K' := [(6, .row 33), (25, .recs (α := List (List UInt8)) [] E_Lstring v25), (26, .val (.int .i64 v26)), (27, .val (.int .i64 (IntKind.wrap .i64 (v27 + 1))))]) (L' := [(33, 9, [.rowc false (α := List UInt8) [] E_string (v6 ++ ((v25)[Int.toNat v27]?.getD []))])]) (by kernel_rfl) (by kernel_rfl) ?_
      refine To.pre (St.rename 33 1006 (by decide) (K' := [(6, .row 1006), (25, .recs (α := List (List UInt8)) [] E_Lstring v25), (26, .val (.int .i64 v26)), (27, .val (.int .i64 (IntKind.wrap .i64 (v27 + 1))))]) (L' := [(1006, 9, [.rowc false (α := List UInt8) [] E_string (v6 ++ ((v25)[Int.toNat v27]?.getD []))])]) (by kernel_rfl) (by kernel_rfl) (by kernel_rfl)) ?_
      refine To.keep (kk := [6, 25, 26, 27]) (kl := [1006]) (K' := [(6, .row 1006), (25, .recs (α := List (List UInt8)) [] E_Lstring v25), (26, .val (.int .i64 v26)), (27, .val (.int .i64 (IntKind.wrap .i64 (v27 + 1))))]) (L' := [(1006, 9, [.rowc false (α := List UInt8) [] E_string (v6 ++ ((v25)[Int.toNat v27]?.getD []))])]) (by kernel_rfl) (by kernel_rfl) ?_
      refine To.again ?_
      exact ih (v6 ++ ((v25)[Int.toNat v27]?.getD [])) (IntKind.wrap .i64 (v27 + 1)) _ h hQ
    · replace h := if_f hb h
      refine Wp.exit ?_
      refine To.thenX ?_
      refine To.thenX ?_
      refine To.keep (kk := [6]) (kl := [1006]) (K' := [(6, .row 1006)]) (L' := [(1006, 9, [.rowc false (α := List UInt8) [] E_string v6])]) (by kernel_rfl) (by kernel_rfl) ?_
      cases h
      exact hQ
def slices_Concat_string_string (n : Nat) (a0 : List (List (List UInt8))) : Option ((List (List UInt8))) :=
  (slices_Concat_string_string_l1 n a0 a0 (List.length a0 : Int) n 0 0).bind fun o1 =>
  if (decide (0 ≤ o1 ∧ o1 * 17 ≤ (limit : Int))) = true then ((slices_Concat_string_string_l3 n a0 (List.length a0 : Int) n ([] : List (List UInt8)) 0).bind fun o3 =>
  some o3) else none
theorem ok_slices_Concat_string_string (n : Nat) (a0 : List (List (List UInt8))) (r : (List (List UInt8))) (h : slices_Concat_string_string n a0 = some r) : CallsX Try.prog 44 [.recs (α := List (List UInt8)) [] E_Lstring a0] (.recs (α := List UInt8) [] E_string r) := by
  unfold slices_Concat_string_string at h
  refine callsX_of (fn := Try.f44) (by kernel_rfl) rfl (by kernel_rfl) (Nat.le_of_ble_eq_true (by kernel_rfl)) fun F0 w0 _ => ?_
  refine Wp.keep (kk := [0]) (kl := []) (K' := [(0, .recs (α := List (List UInt8)) [] E_Lstring a0)]) (L' := []) (by kernel_rfl) (by kernel_rfl) ?_
  refine Wp.seq ?_
  refine Wp.region hΓ [] [] [] [0] [] (K' := [(0, .recs (α := List (List UInt8)) [] E_Lstring a0)]) (L' := []) (ob := []) (by kernel_rfl) AllP.nil ?_
  refine To.thenN ?_
  refine Wp.seq ?_
  refine Wp.region hΓ [] [] [] [0, 3] [] (K' := [(0, .recs (α := List (List UInt8)) [] E_Lstring a0), (3, .val (.int .i64 0))]) (L' := []) (ob := []) (by kernel_rfl) AllP.nil ?_
  refine To.thenN ?_
  refine Wp.seq ?_
  refine Wp.seq ?_
  refine Wp.region hΓ [] [] [] [0, 3, 9, 10, 11] [] (K' := [(0, .recs (α := List (List UInt8)) [] E_Lstring a0), (3, .val (.int .i64 0)), (9, .recs (α := List (List UInt8)) [] E_Lstring a0), (10, .val (.int .i64 (List.length a0 : Int))), (11, .val (.int .i64 0))]) (L' := []) (ob := []) (by kernel_rfl) AllP.nil ?_
  refine To.thenN ?_
  refine Wp.block ?_
  obtain ⟨o1, ho1, h⟩ := bind_of h
  refine Wp.keep (kk := [0, 3, 9, 10, 11]) (kl := []) (K' := [(0, .recs (α := List (List UInt8)) [] E_Lstring a0), (3, .val (.int .i64 0)), (9, .recs (α := List (List UInt8)) [] E_Lstring a0), (10, .val (.int .i64 (List.length a0 : Int))), (11, .val (.int .i64 0))]) (L' := []) (by kernel_rfl) (by kernel_rfl) ?_
  refine Wp.loopL ?_
  refine ok_slices_Concat_string_string_l1 n a0 a0 (List.length a0 : Int) n 0 0 o1 ho1 ?_
  refine To.blockX ?_
  refine To.thenN ?_
  refine Wp.seq ?_
  obtain ⟨u2, h⟩ := chk_of h
  refine Wp.region hΓ [] [] [(1, ⟨[], [(1, 24)], [.val (.slice none 0 0), .val (.int .i64 o1)], [], .row 1, [(1, 9, [.rowc false (α := List UInt8) [] E_string []])]⟩)] [0, 6] [24] (K' := [(0, .recs (α := List (List UInt8)) [] E_Lstring a0), (6, .row 24)]) (L' := [(24, 9, [.rowc false (α := List UInt8) [] E_string []])]) (ob := [CbOb (CallsB Try.prog) 52 [.val (.slice none 0 0), .val (.int .i64 o1)] [] ⟨[], [(1, 24)], [.val (.slice none 0 0), .val (.int .i64 o1)], [], .row 1, [(1, 9, [.rowc false (α := List UInt8) [] E_string []])]⟩]) (by kernel_rfl) (AllP.cons (⟨Sh.grow52 u2, by kernel_rfl, by kernel_rfl⟩) AllP.nil) ?_
  refine To.thenN ?_
  refine Wp.seq ?_
  refine Wp.seq ?_
  refine Wp.region hΓ [] [] [] [6, 25, 26, 27] [24] (K' := [(6, .row 24), (25, .recs (α := List (List UInt8)) [] E_Lstring a0), (26, .val (.int .i64 (List.length a0 : Int))), (27, .val (.int .i64 0))]) (L' := [(24, 9, [.rowc false (α := List UInt8) [] E_string []])]) (ob := []) (by kernel_rfl) AllP.nil ?_
  refine To.thenN ?_
  refine Wp.block ?_
  obtain ⟨o3, ho3, h⟩ := bind_of h
  refine Wp.keep (kk := [6, 25, 26, 27]) (kl := [24]) (K' := [(6, .row 24), (25, .recs (α := List (List UInt8)) [] E_Lstring a0), (26, .val (.int .i64 (List.length a0 : Int))), (27, .val (.int .i64 0))]) (L' := [(24, 9, [.rowc false (α := List UInt8) [] E_string []])]) (by kernel_rfl) (by kernel_rfl) ?_
  refine Wp.pre (St.rename 24 1006 (by decide) (K' := [(6, .row 1006), (25, .recs (α := List (List UInt8)) [] E_Lstring a0), (26, .val (.int .i64 (List.length a0 : Int))), (27, .val (.int .i64 0))]) (L' := [(1006, 9, [.rowc false (α := List UInt8) [] E_string []])]) (by kernel_rfl) (by kernel_rfl) (by kernel_rfl)) ?_
  refine Wp.keep (kk := [6, 25, 26, 27]) (kl := [1006]) (K' := [(6, .row 1006), (25, .recs (α := List (List UInt8)) [] E_Lstring a0), (26, .val (.int .i64 (List.length a0 : Int))), (27, .val (.int .i64 0))]) (L' := [(1006, 9, [.rowc false (α := List UInt8) [] E_string []])]) (by kernel_rfl) (by kernel_rfl) ?_
  refine Wp.loopL ?_
  refine ok_slices_Concat_string_string_l3 n a0 (List.length a0 : Int) n ([] : List (List UInt8)) 0 o3 ho3 ?_
  refine To.blockX ?_
  refine To.thenN ?_
  refine Wp.seq ?_
  refine Wp.region hΓ [] [] [] [2] [1006] (K' := [(2, .row 1006)]) (L' := [(1006, 9, [.rowc false (α := List UInt8) [] E_string o3])]) (ob := []) (by kernel_rfl) AllP.nil ?_
  refine To.thenN ?_
  refine Wp.ret ?_
  refine To.keep (kk := [2]) (kl := [1006]) (K' := [(2, .row 1006)]) (L' := [(1006, 9, [.rowc false (α := List UInt8) [] E_string o3])]) (by kernel_rfl) (by kernel_rfl) ?_
  refine To.pre (St.settle (ks := [1006]) (kk := [2]) (kl := [1006]) (K' := [(2, .row 1006)]) (L' := [(1006, 9, [.rowc true (α := List UInt8) [] E_string o3])]) (by kernel_rfl)) ?_
  refine To.pre (St.sealK [2] (K' := [(2, .recs (α := List UInt8) [] E_string o3)]) (by kernel_rfl)) ?_
  refine To.keep (kk := [2]) (kl := []) (K' := [(2, .recs (α := List UInt8) [] E_string o3)]) (L' := []) (by kernel_rfl) (by kernel_rfl) ?_
  cases h
  exact To.done hΓ (by kernel_rfl)
def E_Lapi_Node : List (S_api_Node) → List D := fun x => [.recs (α := S_api_Node) (S_api_Node.mk 0 [] [] []) E_api_Node x]
theorem grow53 {x : Int} (h : decide (0 ≤ x ∧ x * 73 ≤ (limit : Int)) = true) : CallsB Try.prog 53 [.val (.slice none 0 0), .val (.int .i64 x)] [] (.row 1) [(1, 25, [.rowc false (α := S_api_Node) (S_api_Node.mk 0 [] [] []) E_api_Node []])] := callsB_growI (size := 4) (bytes := 72) ⟨Try.f53, by kernel_rfl, by kernel_rfl, by kernel_rfl⟩ (good_E_api_Node []) (by kernel_rfl) (by kernel_rfl)
  (fun w => Any8.slices_Grow_room Try.laysG53 none 0 0 0 w (by decide) (by decide) (by decide) (by decide))
  (fun i z hi hz hs n w h1 h2 h3 => by
    have h := Any8.slices_Grow_grow Try.laysG53 i z hi hz hs none 0 0 n [] w (Nat.le_refl _) (by omega) (by simpa using h2) (by simpa using h3) (by simp) (fun _ => rfl) (fun a h => by cases h)
    simp only [Nat.zero_add, Nat.sub_zero] at h
    exact h) h
def slices_Concat_api_Node_api_Node_j2 (n : Nat) (v0 : List (List (S_api_Node))) (v3 : Int) (v9 : List (List (S_api_Node))) (v10 : Int) (v11 : Int) : Option (Int) :=
  if (decide (0 ≤ v11 ∧ v11 < (List.length v9 : Int))) = true then (if (decide ((IntKind.wrap .i64 (v3 + (List.length ((v9)[Int.toNat v11]?.getD []) : Int))) < 0)) = true then none
  else (some (IntKind.wrap .i64 (v3 + (List.length ((v9)[Int.toNat v11]?.getD []) : Int))))) else none
theorem ok_slices_Concat_api_Node_api_Node_j2 (n : Nat) (v0 : List (List (S_api_Node))) (v3 : Int) (v9 : List (List (S_api_Node))) (v10 : Int) (v11 : Int) (o : Int) (h : slices_Concat_api_Node_api_Node_j2 n v0 v3 v9 v10 v11 = some o) {F0 : Fz} {w0 : Pt Try.prog} {Q : Exit → Act → World → Prop} (hQ : To 36 F0 w0 [(0, .recs (α := List (S_api_Node)) [] E_Lapi_Node v0), (3, .val (.int .i64 o)), (9, .recs (α := List (S_api_Node)) [] E_Lapi_Node v9), (10, .val (.int .i64 v10)), (11, .val (.int .i64 v11))] [] .normal Q) : Wp Try.prog 36 F0 w0 [(0, .recs (α := List (S_api_Node)) [] E_Lapi_Node v0), (3, .val (.int .i64 v3)), (9, .recs (α := List (S_api_Node)) [] E_Lapi_Node v9), (10, .val (.int .i64 v10)), (11, .val (.int .i64 v11))] [] (cA (cB (cB (cI (cI (cB (cA (cB (cB (cF Try.f45)))))))))) Q := by
  unfold slices_Concat_api_Node_api_Node_j2 at h
  refine Wp.block ?_
  refine Wp.seq ?_
  obtain ⟨hc1, h⟩ := chk_of h
  refine Wp.region hΓ [] [] [] [0, 3, 5, 9, 10, 11] [] (K' := [(0, .recs (α := List (S_api_Node)) [] E_Lapi_Node v0), (3, .val (.int .i64 v3)), (5, .recs (α := S_api_Node) (S_api_Node.mk 0 [] [] []) E_api_Node ((v9)[Int.toNat v11]?.getD [])), (9, .recs (α := List (S_api_Node)) [] E_Lapi_Node v9), (10, .val (.int .i64 v10)), (11, .val (.int .i64 v11))]) (L' := []) (ob := [(decide (0 ≤ v11 ∧ v11 < (List.length v9 : Int))) = true]) (by kernel_rfl) (AllP.cons hc1 AllP.nil) ?_
  refine To.thenN ?_
  refine Wp.seq ?_
  refine Wp.region hΓ [] [] [] [0, 3, 9, 10, 11] [] (K' := [(0, .recs (α := List (S_api_Node)) [] E_Lapi_Node v0), (3, .val (.int .i64 (IntKind.wrap .i64 (v3 + (List.length ((v9)[Int.toNat v11]?.getD []) : Int))))), (9, .recs (α := List (S_api_Node)) [] E_Lapi_Node v9), (10, .val (.int .i64 v10)), (11, .val (.int .i64 v11))]) (L' := []) (ob := []) (by kernel_rfl) AllP.nil ?_
  refine To.thenN ?_
  refine Wp.seq ?_
  refine Wp.region hΓ [] [] [] [0, 3, 9, 10, 11, 20] [] (K' := [(0, .recs (α := List (S_api_Node)) [] E_Lapi_Node v0), (3, .val (.int .i64 (IntKind.wrap .i64 (v3 + (List.length ((v9)[Int.toNat v11]?.getD []) : Int))))), (9, .recs (α := List (S_api_Node)) [] E_Lapi_Node v9), (10, .val (.int .i64 v10)), (11, .val (.int .i64 v11)), (20, .val (.bool (decide ((IntKind.wrap .i64 (v3 + (List.length ((v9)[Int.toNat v11]?.getD []) : Int))) < 0))))]) (L' := []) (ob := []) (by kernel_rfl) AllP.nil ?_
  refine To.thenN ?_
  refine Wp.cond (b := (decide ((IntKind.wrap .i64 (v3 + (List.length ((v9)[Int.toNat v11]?.getD []) : Int))) < 0))) (by kernel_rfl) (fun hb => ?_) (fun hb => ?_)
  · replace h := if_t hb h
    cases h
  · replace h := if_f hb h
    refine Wp.skip ?_
    refine To.blockN ?_
    refine To.keep (kk := [0, 3, 9, 10, 11]) (kl := []) (K' := [(0, .recs (α := List (S_api_Node)) [] E_Lapi_Node v0), (3, .val (.int .i64 (IntKind.wrap .i64 (v3 + (List.length ((v9)[Int.toNat v11]?.getD []) : Int))))), (9, .recs (α := List (S_api_Node)) [] E_Lapi_Node v9), (10, .val (.int .i64 v10)), (11, .val (.int .i64 v11))]) (L' := []) (by kernel_rfl) (by kernel_rfl) ?_
    cases h
    exact hQ
def slices_Concat_api_Node_api_Node_l1 (n : Nat) (v0 : List (List (S_api_Node))) (v9 : List (List (S_api_Node))) (v10 : Int) : Nat → Int → Int → Option (Int)
  | 0, _, _ => none
  | k + 1, v3, v11 => if (decide (v11 < v10)) = true then ((slices_Concat_api_Node_api_Node_j2 n v0 v3 v9 v10 v11).bind fun o1 =>
  slices_Concat_api_Node_api_Node_l1 n v0 v9 v10 k o1 (IntKind.wrap .i64 (v11 + 1)))
  else some v3
theorem ok_slices_Concat_api_Node_api_Node_l1 (n : Nat) (v0 : List (List (S_api_Node))) (v9 : List (List (S_api_Node))) (v10 : Int) {F0 : Fz} {w0 : Pt Try.prog} {Q : Exit → Act → World → Prop} (k : Nat) : ∀ (v3 : Int) (v11 : Int) (o : Int), slices_Concat_api_Node_api_Node_l1 n v0 v9 v10 k v3 v11 = some o → To 36 F0 w0 [(0, .recs (α := List (S_api_Node)) [] E_Lapi_Node v0), (3, .val (.int .i64 o))] [] (.exit 0) Q → WL Try.prog 36 F0 w0 [(0, .recs (α := List (S_api_Node)) [] E_Lapi_Node v0), (3, .val (.int .i64 v3)), (9, .recs (α := List (S_api_Node)) [] E_Lapi_Node v9), (10, .val (.int .i64 v10)), (11, .val (.int .i64 v11))] [] (cI (cI (cB (cA (cB (cB (cF Try.f45))))))) Q := by
  induction k with
  | zero => intro v3 v11 o h; cases h
  | succ k ih =>
    intro v3 v11 o h hQ
    rw [slices_Concat_api_Node_api_Node_l1] at h
    refine WL.round ?_
    refine Wp.seq ?_
    refine Wp.region hΓ [] [] [] [0, 3, 9, 10, 11, 12] [] (K' := [(0, .recs (α := List (S_api_Node)) [] E_Lapi_Node v0), (3, .val (.int .i64 v3)), (9, .recs (α := List (S_api_Node)) [] E_Lapi_Node v9), (10, .val (.int .i64 v10)), (11, .val (.int .i64 v11)), (12, .val (.bool (decide (v11 < v10))))]) (L' := []) (ob := []) (by kernel_rfl) AllP.nil ?_
    refine To.thenN ?_
    refine Wp.seq ?_
    refine Wp.cond (b := (decide (v11 < v10))) (by kernel_rfl) (fun hb => ?_) (fun hb => ?_)
    · replace h := if_t hb h
      refine Wp.skip ?_
      refine To.thenN ?_
      refine Wp.seq ?_
      obtain ⟨o1, ho1, h⟩ := bind_of h
      refine Wp.keep (kk := [0, 3, 9, 10, 11]) (kl := []) (K' := [(0, .recs (α := List (S_api_Node)) [] E_Lapi_Node v0), (3, .val (.int .i64 v3)), (9, .recs (α := List (S_api_Node)) [] E_Lapi_Node v9), (10, .val (.int .i64 v10)), (11, .val (.int .i64 v11))]) (L' := []) (by kernel_rfl) (by kernel_rfl) ?_
      refine ok_slices_Concat_api_Node_api_Node_j2 n v0 v3 v9 v10 v11 o1 ho1 ?_
      refine To.thenN ?_
      refine Wp.region hΓ [] [] [] [0, 3, 9, 10, 11] [] (K' := [(0, .recs (α := List (S_api_Node)) [] E_Lapi_Node v0), (3, .val (.int .i64 o1)), (9, .recs (α := List (S_api_Node)) [] E_Lapi_Node v9), (10, .val (.int .i64 v10)), (11, .val (.int .i64 (IntKind.wrap .i64 (v11 + 1))))]) (L' := []) (ob := []) (by kernel_rfl) AllP.nil ?_
      refine To.keep (kk := [0, 3, 9, 10, 11]) (kl := []) (K' := [(0, .recs (α := List (S_api_Node)) [] E_Lapi_Node v0), (3, .val (.int .i64 o1)), (9, .recs (α := List (S_api_Node)) [] E_Lapi_Node v9), (10, .val (.int .i64 v10)), (11, .val (.int .i64 (IntKind.wrap .i64 (v11 + 1))))]) (L' := []) (by kernel_rfl) (by kernel_rfl) ?_
      refine To.again ?_
      exact ih o1 (IntKind.wrap .i64 (v11 + 1)) _ h hQ
    · replace h := if_f hb h
      refine Wp.exit ?_
      refine To.thenX ?_
      refine To.thenX ?_
      refine To.keep (kk := [0, 3]) (kl := []) (K' := [(0, .recs (α := List (S_api_Node)) [] E_Lapi_Node v0), (3, .val (.int .i64 v3))]) (L' := []) (by kernel_rfl) (by kernel_rfl) ?_
      cases h
      exact hQ
def slices_Concat_api_Node_api_Node_l3 (n : Nat) (v25 : List (List (S_api_Node))) (v26 : Int) : Nat → (List (S_api_Node)) → Int → Option ((List (S_api_Node)))
  | 0, _, _ => none
  | k + 1, v6, v27 => if (decide (v27 < v26)) = true then (if (decide (0 ≤ v27 ∧ v27 < (List.length v25 : Int))) = true then (if (decide ((List.length v6 + List.length ((v25)[Int.toNat v27]?.getD [])) * (72 + 1) ≤ limit)) = true then (slices_Concat_api_Node_api_Node_l3 n v25 v26 k (v6 ++ ((v25)[Int.toNat v27]?.getD [])) (IntKind.wrap .i64 (v27 + 1))) else none) else none)
  else some v6
theorem ok_slices_Concat_api_Node_api_Node_l3 (n : Nat) (v25 : List (List (S_api_Node))) (v26 : Int) {F0 : Fz} {w0 : Pt Try.prog} {Q : Exit → Act → World → Prop} (k : Nat) : ∀ (v6 : List (S_api_Node)) (v27 : Int) (o : (List (S_api_Node))), slices_Concat_api_Node_api_Node_l3 n v25 v26 k v6 v27 = some o → To 36 F0 w0 [(6, .row 1006)] [(1006, 25, [.rowc false (α := S_api_Node) (S_api_Node.mk 0 [] [] []) E_api_Node o])] (.exit 2) Q → WL Try.prog 36 F0 w0 [(6, .row 1006), (25, .recs (α := List (S_api_Node)) [] E_Lapi_Node v25), (26, .val (.int .i64 v26)), (27, .val (.int .i64 v27))] [(1006, 25, [.rowc false (α := S_api_Node) (S_api_Node.mk 0 [] [] []) E_api_Node v6])] (cI (cI (cB (cA (cB (cB (cB (cB (cF Try.f45))))))))) Q := by
  induction k with
  | zero => intro v6 v27 o h; cases h
  | succ k ih =>
    intro v6 v27 o h hQ
    rw [slices_Concat_api_Node_api_Node_l3] at h
    refine WL.round ?_
    refine Wp.seq ?_
    refine Wp.region hΓ [] [] [] [6, 25, 26, 27, 28] [1006] (K' := [(6, .row 1006), (25, .recs (α := List (S_api_Node)) [] E_Lapi_Node v25), (26, .val (.int .i64 v26)), (27, .val (.int .i64 v27)), (28, .val (.bool (decide (v27 < v26))))]) (L' := [(1006, 25, [.rowc false (α := S_api_Node) (S_api_Node.mk 0 [] [] []) E_api_Node v6])]) (ob := []) (by kernel_rfl) AllP.nil ?_
    refine To.thenN ?_
    refine Wp.seq ?_
    refine Wp.cond (b := (decide (v27 < v26))) (by kernel_rfl) (fun hb => ?_) (fun hb => ?_)
    · replace h := if_t hb h
      refine Wp.skip ?_
      refine To.thenN ?_
      refine Wp.seq ?_
      refine Wp.block ?_
      refine Wp.seq ?_
      obtain ⟨hc4, h⟩ := chk_of h
      refine Wp.region hΓ [] [] [] [6, 8, 25, 26, 27] [1006] (K' := [(6, .row 1006), (8, .recs (α := S_api_Node) (S_api_Node.mk 0 [] [] []) E_api_Node ((v25)[Int.toNat v27]?.getD [])), (25, .recs (α := List (S_api_Node)) [] E_Lapi_Node v25), (26, .val (.int .i64 v26)), (27, .val (.int .i64 v27))]) (L' := [(1006, 25, [.rowc false (α := S_api_Node) (S_api_Node.mk 0 [] [] []) E_api_Node v6])]) (ob := [(decide (0 ≤ v27 ∧ v27 < (List.length v25 : Int))) = true]) (by kernel_rfl) (AllP.cons hc4 AllP.nil) ?_
      refine To.thenN ?_
      obtain ⟨hc3, h⟩ := chk_of h
      refine Wp.region hΓ [] [(2, .recs (α := S_api_Node) (S_api_Node.mk 0 [] [] []) E_api_Node (v6 ++ ((v25)[Int.toNat v27]?.getD [])))] [] [6, 25, 26, 27] [33] (K' := [(6, .row 33), (25, .recs (α := List (S_api_Node)) [] E_Lapi_Node v25), (26, .val (.int .i64 v26)), (27, .val (.int .i64 v27))]) (L' := [(33, 25, [.rowc false (α := S_api_Node) (S_api_Node.mk 0 [] [] []) E_api_Node (v6 ++ ((v25)[Int.toNat v27]?.getD []))])]) (ob := [(decide ((List.length v6 + List.length ((v25)[Int.toNat v27]?.getD [])) * (72 + 1) ≤ limit)) = true, (AppOb (S_api_Node.mk 0 [] [] []) E_api_Node v6 (List.flatMap E_api_Node ((v25)[Int.toNat v27]?.getD [])) (List.length ((v25)[Int.toNat v27]?.getD [])) (.recs (α := S_api_Node) (S_api_Node.mk 0 [] [] []) E_api_Node (v6 ++ ((v25)[Int.toNat v27]?.getD []))) ∧ GoodR (.recs (α := S_api_Node) (S_api_Node.mk 0 [] [] []) E_api_Node (v6 ++ ((v25)[Int.toNat v27]?.getD []))))]) (by kernel_rfl) (AllP.cons hc3 (AllP.cons (appOb rfl rfl (good_E_api_Node _)) AllP.nil)) ?_
      refine To.blockN ?_
      refine To.thenN ?_
      refine Wp.region hΓ [] [] [] [6, 25, 26, 27] [33] (K' := [(6, .row 33), (25, .recs (α := List (S_api_Node)) [] E_Lapi_Node v25), (26, .val (.int .i64 v26)), (27, .val (.int .i64 (IntKind.wrap .i64 (v27 + 1))))]) (L' := [(33, 25, [.rowc false (α := S_api_Node) (S_api_Node.mk 0 [] [] []) E_api_Node (v6 ++ ((v25)[Int.toNat v27]?.getD []))])]) (ob := []) (by kernel_rfl) AllP.nil ?_
      refine To.keep (kk := [6, 25, 26, 27]) (kl := [33]) (K' := [(6, .row 33), (25, .recs (α := List (S_api_Node)) [] E_Lapi_Node v25), (26, .val (.int .i64 v26)), (27, .val (.int .i64 (IntKind.wrap .i64 (v27 + 1))))]) (L' := [(33, 25, [.rowc false (α := S_api_Node) (S_api_Node.mk 0 [] [] []) E_api_Node (v6 ++ ((v25)[Int.toNat v27]?.getD []))])]) (by kernel_rfl) (by kernel_rfl) ?_
      refine To.pre (St.rename 33 1006 (by decide) (K' := [(6, .row 1006), (25, .recs (α := List (S_api_Node)) [] E_Lapi_Node v25), (26, .val (.int .i64 v26)), (27, .val (.int .i64 (IntKind.wrap .i64 (v27 + 1))))]) (L' := [(1006, 25, [.rowc false (α := S_api_Node) (S_api_Node.mk 0 [] [] []) E_api_Node (v6 ++ ((v25)[Int.toNat v27]?.getD []))])]) (by kernel_rfl) (by kernel_rfl) (by kernel_rfl)) ?_
      refine To.keep (kk := [6, 25, 26, 27]) (kl := [1006]) (K' := [(6, .row 1006), (25, .recs (α := List (S_api_Node)) [] E_Lapi_Node v25), (26, .val (.int .i64 v26)), (27, .val (.int .i64 (IntKind.wrap .i64 (v27 + 1))))]) (L' := [(1006, 25, [.rowc false (α := S_api_Node) (S_api_Node.mk 0 [] [] []) E_api_Node (v6 ++ ((v25)[Int.toNat v27]?.getD []))])]) (by kernel_rfl) (by kernel_rfl) ?_
      refine To.again ?_
      exact ih (v6 ++ ((v25)[Int.toNat v27]?.getD [])) (IntKind.wrap .i64 (v27 + 1)) _ h hQ
    · replace h := if_f hb h
      refine Wp.exit ?_
      refine To.thenX ?_
      refine To.thenX ?_
      refine To.keep (kk := [6]) (kl := [1006]) (K' := [(6, .row 1006)]) (L' := [(1006, 25, [.rowc false (α := S_api_Node) (S_api_Node.mk 0 [] [] []) E_api_Node v6])]) (by kernel_rfl) (by kernel_rfl) ?_
      cases h
      exact hQ
def slices_Concat_api_Node_api_Node (n : Nat) (a0 : List (List (S_api_Node))) : Option ((List (S_api_Node))) :=
  (slices_Concat_api_Node_api_Node_l1 n a0 a0 (List.length a0 : Int) n 0 0).bind fun o1 =>
  if (decide (0 ≤ o1 ∧ o1 * 73 ≤ (limit : Int))) = true then ((slices_Concat_api_Node_api_Node_l3 n a0 (List.length a0 : Int) n ([] : List (S_api_Node)) 0).bind fun o3 =>
  some o3) else none
theorem ok_slices_Concat_api_Node_api_Node (n : Nat) (a0 : List (List (S_api_Node))) (r : (List (S_api_Node))) (h : slices_Concat_api_Node_api_Node n a0 = some r) : CallsX Try.prog 45 [.recs (α := List (S_api_Node)) [] E_Lapi_Node a0] (.recs (α := S_api_Node) (S_api_Node.mk 0 [] [] []) E_api_Node r) := by
  unfold slices_Concat_api_Node_api_Node at h
  refine callsX_of (fn := Try.f45) (by kernel_rfl) rfl (by kernel_rfl) (Nat.le_of_ble_eq_true (by kernel_rfl)) fun F0 w0 _ => ?_
  refine Wp.keep (kk := [0]) (kl := []) (K' := [(0, .recs (α := List (S_api_Node)) [] E_Lapi_Node a0)]) (L' := []) (by kernel_rfl) (by kernel_rfl) ?_
  refine Wp.seq ?_
  refine Wp.region hΓ [] [] [] [0] [] (K' := [(0, .recs (α := List (S_api_Node)) [] E_Lapi_Node a0)]) (L' := []) (ob := []) (by kernel_rfl) AllP.nil ?_
  refine To.thenN ?_
  refine Wp.seq ?_
  refine Wp.region hΓ [] [] [] [0, 3] [] (K' := [(0, .recs (α := List (S_api_Node)) [] E_Lapi_Node a0), (3, .val (.int .i64 0))]) (L' := []) (ob := []) (by kernel_rfl) AllP.nil ?_
  refine To.thenN ?_
  refine Wp.seq ?_
  refine Wp.seq ?_
  refine Wp.region hΓ [] [] [] [0, 3, 9, 10, 11] [] (K' := [(0, .recs (α := List (S_api_Node)) [] E_Lapi_Node a0), (3, .val (.int .i64 0)), (9, .recs (α := List (S_api_Node)) [] E_Lapi_Node a0), (10, .val (.int .i64 (List.length a0 : Int))), (11, .val (.int .i64 0))]) (L' := []) (ob := []) (by kernel_rfl) AllP.nil ?_
  refine To.thenN ?_
  refine Wp.block ?_
  obtain ⟨o1, ho1, h⟩ := bind_of h
  refine Wp.keep (kk := [0, 3, 9, 10, 11]) (kl := []) (K' := [(0, .recs (α := List (S_api_Node)) [] E_Lapi_Node a0), (3, .val (.int .i64 0)), (9, .recs (α := List (S_api_Node)) [] E_Lapi_Node a0), (10, .val (.int .i64 (List.length a0 : Int))), (11, .val (.int .i64 0))]) (L' := []) (by kernel_rfl) (by kernel_rfl) ?_
  refine Wp.loopL ?_
  refine ok_slices_Concat_api_Node_api_Node_l1 n a0 a0 (List.length a0 : Int) n 0 0 o1 ho1 ?_
  refine To.blockX ?_
  refine To.thenN ?_
  refine Wp.seq ?_
  obtain ⟨u2, h⟩ := chk_of h
  refine Wp.region hΓ [] [] [(1, ⟨[], [(1, 24)], [.val (.slice none 0 0), .val (.int .i64 o1)], [], .row 1, [(1, 25, [.rowc false (α := S_api_Node) (S_api_Node.mk 0 [] [] []) E_api_Node []])]⟩)] [0, 6] [24] (K' := [(0, .recs (α := List (S_api_Node)) [] E_Lapi_Node a0), (6, .row 24)]) (L' := [(24, 25, [.rowc false (α := S_api_Node) (S_api_Node.mk 0 [] [] []) E_api_Node []])]) (ob := [CbOb (CallsB Try.prog) 53 [.val (.slice none 0 0), .val (.int .i64 o1)] [] ⟨[], [(1, 24)], [.val (.slice none 0 0), .val (.int .i64 o1)], [], .row 1, [(1, 25, [.rowc false (α := S_api_Node) (S_api_Node.mk 0 [] [] []) E_api_Node []])]⟩]) (by kernel_rfl) (AllP.cons (⟨grow53 u2, by kernel_rfl, by kernel_rfl⟩) AllP.nil) ?_
  refine To.thenN ?_
  refine Wp.seq ?_
  refine Wp.seq ?_
  refine Wp.region hΓ [] [] [] [6, 25, 26, 27] [24] (K' := [(6, .row 24), (25, .recs (α := List (S_api_Node)) [] E_Lapi_Node a0), (26, .val (.int .i64 (List.length a0 : Int))), (27, .val (.int .i64 0))]) (L' := [(24, 25, [.rowc false (α := S_api_Node) (S_api_Node.mk 0 [] [] []) E_api_Node []])]) (ob := []) (by kernel_rfl) AllP.nil ?_
  refine To.thenN ?_
  refine Wp.block ?_
  obtain ⟨o3, ho3, h⟩ := bind_of h
  refine Wp.keep (kk := [6, 25, 26, 27]) (kl := [24]) (K' := [(6, .row 24), (25, .recs (α := List (S_api_Node)) [] E_Lapi_Node a0), (26, .val (.int .i64 (List.length a0 : Int))), (27, .val (.int .i64 0))]) (L' := [(24, 25, [.rowc false (α := S_api_Node) (S_api_Node.mk 0 [] [] []) E_api_Node []])]) (by kernel_rfl) (by kernel_rfl) ?_
  refine Wp.pre (St.rename 24 1006 (by decide) (K' := [(6, .row 1006), (25, .recs (α := List (S_api_Node)) [] E_Lapi_Node a0), (26, .val (.int .i64 (List.length a0 : Int))), (27, .val (.int .i64 0))]) (L' := [(1006, 25, [.rowc false (α := S_api_Node) (S_api_Node.mk 0 [] [] []) E_api_Node []])]) (by kernel_rfl) (by kernel_rfl) (by kernel_rfl)) ?_
  refine Wp.keep (kk := [6, 25, 26, 27]) (kl := [1006]) (K' := [(6, .row 1006), (25, .recs (α := List (S_api_Node)) [] E_Lapi_Node a0), (26, .val (.int .i64 (List.length a0 : Int))), (27, .val (.int .i64 0))]) (L' := [(1006, 25, [.rowc false (α := S_api_Node) (S_api_Node.mk 0 [] [] []) E_api_Node []])]) (by kernel_rfl) (by kernel_rfl) ?_
  refine Wp.loopL ?_
  refine ok_slices_Concat_api_Node_api_Node_l3 n a0 (List.length a0 : Int) n ([] : List (S_api_Node)) 0 o3 ho3 ?_
  refine To.blockX ?_
  refine To.thenN ?_
  refine Wp.seq ?_
  refine Wp.region hΓ [] [] [] [2] [1006] (K' := [(2, .row 1006)]) (L' := [(1006, 25, [.rowc false (α := S_api_Node) (S_api_Node.mk 0 [] [] []) E_api_Node o3])]) (ob := []) (by kernel_rfl) AllP.nil ?_
  refine To.thenN ?_
  refine Wp.ret ?_
  refine To.keep (kk := [2]) (kl := [1006]) (K' := [(2, .row 1006)]) (L' := [(1006, 25, [.rowc false (α := S_api_Node) (S_api_Node.mk 0 [] [] []) E_api_Node o3])]) (by kernel_rfl) (by kernel_rfl) ?_
  refine To.pre (St.settle (ks := [1006]) (kk := [2]) (kl := [1006]) (K' := [(2, .row 1006)]) (L' := [(1006, 25, [.rowc true (α := S_api_Node) (S_api_Node.mk 0 [] [] []) E_api_Node o3])]) (by kernel_rfl)) ?_
  refine To.pre (St.sealK [2] (K' := [(2, .recs (α := S_api_Node) (S_api_Node.mk 0 [] [] []) E_api_Node o3)]) (by kernel_rfl)) ?_
  refine To.keep (kk := [2]) (kl := []) (K' := [(2, .recs (α := S_api_Node) (S_api_Node.mk 0 [] [] []) E_api_Node o3)]) (L' := []) (by kernel_rfl) (by kernel_rfl) ?_
  cases h
  exact To.done hΓ (by kernel_rfl)
theorem good_E_Lstring (l : List (List (List UInt8))) : GoodR (.recs [] E_Lstring l) := ⟨Nat.le_of_ble_eq_true (by kernel_rfl), fun _ => ⟨rfl, rfl⟩⟩
theorem good_E_Lapi_Node (l : List (List (S_api_Node))) : GoodR (.recs [] E_Lapi_Node l) := ⟨Nat.le_of_ble_eq_true (by kernel_rfl), fun _ => ⟨rfl, rfl⟩⟩
def node_Less (n : Nat) (a0 : S_api_Node) (a1 : List UInt8) : Option (S_api_Node) :=
  (node_place n a0 a1).bind fun r1 =>
  if (decide (r1 < 0)) = true then some a0
  else (if (decide (0 ≤ r1 ∧ r1 ≤ (List.length a0.f_Keys : Int))) = true then (if (decide (0 ≤ (IntKind.wrap .i64 (r1 + 1)) ∧ (IntKind.wrap .i64 (r1 + 1)) ≤ (List.length a0.f_Keys : Int))) = true then ((slices_Concat_string_string n [(List.take (Int.toNat r1) a0.f_Keys), (List.drop (Int.toNat (IntKind.wrap .i64 (r1 + 1))) a0.f_Keys)]).bind fun r2 =>
  if (decide (0 ≤ r1 ∧ r1 ≤ (List.length a0.f_Kids : Int))) = true then (if (decide (0 ≤ (IntKind.wrap .i64 (r1 + 1)) ∧ (IntKind.wrap .i64 (r1 + 1)) ≤ (List.length a0.f_Kids : Int))) = true then ((slices_Concat_api_Node_api_Node n [(List.take (Int.toNat r1) a0.f_Kids), (List.drop (Int.toNat (IntKind.wrap .i64 (r1 + 1))) a0.f_Kids)]).bind fun r3 =>
  some (S_api_Node.mk 3 [] r2 r3)) else none) else none) else none) else none)
theorem ok_node_Less (n : Nat) (a0 : S_api_Node) (a1 : List UInt8) (r : S_api_Node) (h : node_Less n a0 a1 = some r) : CallsX Try.prog 25 [.agg [.val (.int .i64 a0.f_Kind), .str a0.f_Text, .recs (α := List UInt8) [] E_string a0.f_Keys, .tree (α := S_api_Node) (S_api_Node.mk 0 [] [] []) pre_S_api_Node kids_S_api_Node a0.f_Kids], .str a1] (.agg [.val (.int .i64 r.f_Kind), .str r.f_Text, .recs (α := List UInt8) [] E_string r.f_Keys, .tree (α := S_api_Node) (S_api_Node.mk 0 [] [] []) pre_S_api_Node kids_S_api_Node r.f_Kids]) := by
  unfold node_Less at h
  refine callsX_of (fn := Try.f25) (by kernel_rfl) rfl (by kernel_rfl) (Nat.le_of_ble_eq_true (by kernel_rfl)) fun F0 w0 _ => ?_
  refine Wp.keep (kk := [0, 1]) (kl := []) (K' := [(0, .agg [.val (.int .i64 a0.f_Kind), .str a0.f_Text, .recs (α := List UInt8) [] E_string a0.f_Keys, .tree (α := S_api_Node) (S_api_Node.mk 0 [] [] []) pre_S_api_Node kids_S_api_Node a0.f_Kids]), (1, .str a1)]) (L' := []) (by kernel_rfl) (by kernel_rfl) ?_
  refine Wp.seq ?_
  refine Wp.region hΓ [] [] [] [1, 2, 4] [2, 4] (K' := [(1, .str a1), (2, .own 2 0), (4, .own 4 0)]) (L' := [(2, 25, [.val (.int .i64 a0.f_Kind), .str a0.f_Text, .recs (α := List UInt8) [] E_string a0.f_Keys, .tree (α := S_api_Node) (S_api_Node.mk 0 [] [] []) pre_S_api_Node kids_S_api_Node a0.f_Kids]), (4, 25, [.val (.int .i64 0), .str [], .val (.slice none 0 0), .val (.slice none 0 0)])]) (ob := []) (by kernel_rfl) AllP.nil ?_
  refine To.thenN ?_
  refine Wp.seq ?_
  obtain ⟨r1, hr1, h⟩ := bind_of h
  refine Wp.region hΓ [] [(2, .val (.int .i64 r1))] [] [2, 4, 5] [2, 4] (K' := [(2, .own 2 0), (4, .own 4 0), (5, .val (.int .i64 r1))]) (L' := [(2, 25, [.val (.int .i64 a0.f_Kind), .str a0.f_Text, .recs (α := List UInt8) [] E_string a0.f_Keys, .tree (α := S_api_Node) (S_api_Node.mk 0 [] [] []) pre_S_api_Node kids_S_api_Node a0.f_Kids]), (4, 25, [.val (.int .i64 0), .str [], .val (.slice none 0 0), .val (.slice none 0 0)])]) (ob := [(true = true → CX Try.prog 40 [.agg [.val (.int .i64 a0.f_Kind), .str a0.f_Text, .recs (α := List UInt8) [] E_string a0.f_Keys, .tree (α := S_api_Node) (S_api_Node.mk 0 [] [] []) pre_S_api_Node kids_S_api_Node a0.f_Kids], .str a1] (.val (.int .i64 r1)))]) (by kernel_rfl) (AllP.cons (fun _ => cx (ok_node_place n a0 a1 _ hr1)) AllP.nil) ?_
  refine To.thenN ?_
  refine Wp.seq ?_
  refine Wp.seq ?_
  refine Wp.region hΓ [] [] [] [2, 4, 5, 10] [2, 4] (K' := [(2, .own 2 0), (4, .own 4 0), (5, .val (.int .i64 r1)), (10, .val (.bool (decide (r1 < 0))))]) (L' := [(2, 25, [.val (.int .i64 a0.f_Kind), .str a0.f_Text, .recs (α := List UInt8) [] E_string a0.f_Keys, .tree (α := S_api_Node) (S_api_Node.mk 0 [] [] []) pre_S_api_Node kids_S_api_Node a0.f_Kids]), (4, 25, [.val (.int .i64 0), .str [], .val (.slice none 0 0), .val (.slice none 0 0)])]) (ob := []) (by kernel_rfl) AllP.nil ?_
  refine To.thenN ?_
  refine Wp.cond (b := (decide (r1 < 0))) (by kernel_rfl) (fun hb => ?_) (fun hb => ?_)
  · replace h := if_t hb h
    refine Wp.seq ?_
    refine Wp.region hΓ [] [] [] [4] [4] (K' := [(4, .own 4 0)]) (L' := [(4, 25, [.val (.int .i64 a0.f_Kind), .str a0.f_Text, .recs (α := List UInt8) [] E_string a0.f_Keys, .tree (α := S_api_Node) (S_api_Node.mk 0 [] [] []) pre_S_api_Node kids_S_api_Node a0.f_Kids])]) (ob := []) (by kernel_rfl) AllP.nil ?_
    refine To.thenN ?_
    refine Wp.ret ?_
    refine To.thenR ?_
    refine To.keep (kk := [4]) (kl := [4]) (K' := [(4, .own 4 0)]) (L' := [(4, 25, [.val (.int .i64 a0.f_Kind), .str a0.f_Text, .recs (α := List UInt8) [] E_string a0.f_Keys, .tree (α := S_api_Node) (S_api_Node.mk 0 [] [] []) pre_S_api_Node kids_S_api_Node a0.f_Kids])]) (by kernel_rfl) (by kernel_rfl) ?_
    cases h
    exact To.done hΓ (by kernel_rfl)
  · replace h := if_f hb h
    refine Wp.skip ?_
    refine To.thenN ?_
    refine Wp.seq ?_
    obtain ⟨hc4, h⟩ := chk_of h
    obtain ⟨hc5, h⟩ := chk_of h
    obtain ⟨r2, hr2, h⟩ := bind_of h
    obtain ⟨hc6, h⟩ := chk_of h
    obtain ⟨hc7, h⟩ := chk_of h
    obtain ⟨r3, hr3, h⟩ := bind_of h
    refine Wp.regionD hm hΓ [(9, .recs (α := List (List UInt8)) [] E_Lstring [(List.take (Int.toNat r1) a0.f_Keys), (List.drop (Int.toNat (IntKind.wrap .i64 (r1 + 1))) a0.f_Keys)]), (10, .recs (α := List UInt8) [] E_string r2), (20, .recs (α := List (S_api_Node)) [] E_Lapi_Node [(List.take (Int.toNat r1) a0.f_Kids), (List.drop (Int.toNat (IntKind.wrap .i64 (r1 + 1))) a0.f_Kids)]), (21, .recs (α := S_api_Node) (S_api_Node.mk 0 [] [] []) E_api_Node r3)] [4] [4] (K' := [(4, .own 4 0)]) (L' := [(4, 25, [.val (.int .i64 3), .str [], .recs (α := List UInt8) [] E_string r2, .recs (α := S_api_Node) (S_api_Node.mk 0 [] [] []) E_api_Node r3])]) (ob := [(decide (0 ≤ r1 ∧ r1 ≤ (List.length a0.f_Keys : Int))) = true, (decide (0 ≤ (IntKind.wrap .i64 (r1 + 1)) ∧ (IntKind.wrap .i64 (r1 + 1)) ≤ (List.length a0.f_Keys : Int))) = true, (true = true → MkOb 1 [.recs (α := List UInt8) [] E_string (List.take (Int.toNat r1) a0.f_Keys), .recs (α := List UInt8) [] E_string (List.drop (Int.toNat (IntKind.wrap .i64 (r1 + 1))) a0.f_Keys)] 2 (.recs (α := List (List UInt8)) [] E_Lstring [(List.take (Int.toNat r1) a0.f_Keys), (List.drop (Int.toNat (IntKind.wrap .i64 (r1 + 1))) a0.f_Keys)]) ∧ GoodR (.recs (α := List (List UInt8)) [] E_Lstring [(List.take (Int.toNat r1) a0.f_Keys), (List.drop (Int.toNat (IntKind.wrap .i64 (r1 + 1))) a0.f_Keys)])), (true = true → CX Try.prog 44 [.recs (α := List (List UInt8)) [] E_Lstring [(List.take (Int.toNat r1) a0.f_Keys), (List.drop (Int.toNat (IntKind.wrap .i64 (r1 + 1))) a0.f_Keys)]] (.recs (α := List UInt8) [] E_string r2)), (decide (0 ≤ r1 ∧ r1 ≤ (List.length a0.f_Kids : Int))) = true, (decide (0 ≤ (IntKind.wrap .i64 (r1 + 1)) ∧ (IntKind.wrap .i64 (r1 + 1)) ≤ (List.length a0.f_Kids : Int))) = true, (true = true → MkOb 1 [.recs (α := S_api_Node) (S_api_Node.mk 0 [] [] []) E_api_Node (List.take (Int.toNat r1) a0.f_Kids), .recs (α := S_api_Node) (S_api_Node.mk 0 [] [] []) E_api_Node (List.drop (Int.toNat (IntKind.wrap .i64 (r1 + 1))) a0.f_Kids)] 2 (.recs (α := List (S_api_Node)) [] E_Lapi_Node [(List.take (Int.toNat r1) a0.f_Kids), (List.drop (Int.toNat (IntKind.wrap .i64 (r1 + 1))) a0.f_Kids)]) ∧ GoodR (.recs (α := List (S_api_Node)) [] E_Lapi_Node [(List.take (Int.toNat r1) a0.f_Kids), (List.drop (Int.toNat (IntKind.wrap .i64 (r1 + 1))) a0.f_Kids)])), (true = true → CX Try.prog 45 [.recs (α := List (S_api_Node)) [] E_Lapi_Node [(List.take (Int.toNat r1) a0.f_Kids), (List.drop (Int.toNat (IntKind.wrap .i64 (r1 + 1))) a0.f_Kids)]] (.recs (α := S_api_Node) (S_api_Node.mk 0 [] [] []) E_api_Node r3))]) (by kernel_rfl) (AllP.cons hc4 (AllP.cons hc5 (AllP.cons (fun _ => mkOb (by kernel_rfl) rfl (by kernel_rfl) (good_E_Lstring _)) (AllP.cons (fun _ => cx (ok_slices_Concat_string_string n [(List.take (Int.toNat r1) a0.f_Keys), (List.drop (Int.toNat (IntKind.wrap .i64 (r1 + 1))) a0.f_Keys)] _ hr2)) (AllP.cons hc6 (AllP.cons hc7 (AllP.cons (fun _ => mkOb (by kernel_rfl) rfl (by kernel_rfl) (good_E_Lapi_Node _)) (AllP.cons (fun _ => cx (ok_slices_Concat_api_Node_api_Node n [(List.take (Int.toNat r1) a0.f_Kids), (List.drop (Int.toNat (IntKind.wrap .i64 (r1 + 1))) a0.f_Kids)] _ hr3)) AllP.nil)))))))) ?_
    refine To.thenN ?_
    refine Wp.ret ?_
    refine To.keep (kk := [4]) (kl := [4]) (K' := [(4, .own 4 0)]) (L' := [(4, 25, [.val (.int .i64 3), .str [], .recs (α := List UInt8) [] E_string r2, .recs (α := S_api_Node) (S_api_Node.mk 0 [] [] []) E_api_Node r3])]) (by kernel_rfl) (by kernel_rfl) ?_
    refine To.weak (K' := [(4, .own 4 0)]) (L' := [(4, 25, [.val (.int .i64 3), .str [], .recs (α := List UInt8) [] E_string r2, .tree (α := S_api_Node) (S_api_Node.mk 0 [] [] []) pre_S_api_Node kids_S_api_Node r3])]) (.cons (.refl _) .nil) (.cons (.cons (.refl _) (.cons (.refl _) (.cons (.refl _) (.cons (.close _ _ _ _) .nil)))) .nil) ?_
    cases h
    exact To.done hΓ (by kernel_rfl)
def ref08_Right (n : Nat) (a0 : S_api_Node) : Option (Bool) :=
  (ref08_Left n a0 1 2000).bind fun r1 =>
  some (decide (r1 ≥ 0))
theorem ok_ref08_Right (n : Nat) (a0 : S_api_Node) (r : Bool) (h : ref08_Right n a0 = some r) : CallsX Try.prog 28 [.agg [.val (.int .i64 a0.f_Kind), .str a0.f_Text, .recs (α := List UInt8) [] E_string a0.f_Keys, .tree (α := S_api_Node) (S_api_Node.mk 0 [] [] []) pre_S_api_Node kids_S_api_Node a0.f_Kids]] (.val (.bool r)) := by
  unfold ref08_Right at h
  refine callsX_of (fn := Try.f28) (by kernel_rfl) rfl (by kernel_rfl) (Nat.le_of_ble_eq_true (by kernel_rfl)) fun F0 w0 _ => ?_
  refine Wp.keep (kk := [0]) (kl := []) (K' := [(0, .agg [.val (.int .i64 a0.f_Kind), .str a0.f_Text, .recs (α := List UInt8) [] E_string a0.f_Keys, .tree (α := S_api_Node) (S_api_Node.mk 0 [] [] []) pre_S_api_Node kids_S_api_Node a0.f_Kids])]) (L' := []) (by kernel_rfl) (by kernel_rfl) ?_
  refine Wp.seq ?_
  refine Wp.region hΓ [] [] [] [1] [1] (K' := [(1, .own 1 0)]) (L' := [(1, 25, [.val (.int .i64 a0.f_Kind), .str a0.f_Text, .recs (α := List UInt8) [] E_string a0.f_Keys, .tree (α := S_api_Node) (S_api_Node.mk 0 [] [] []) pre_S_api_Node kids_S_api_Node a0.f_Kids])]) (ob := []) (by kernel_rfl) AllP.nil ?_
  refine To.thenN ?_
  refine Wp.seq ?_
  obtain ⟨r1, hr1, h⟩ := bind_of h
  refine Wp.region hΓ [] [(1, .val (.int .i64 r1))] [] [2] [] (K' := [(2, .val (.bool (decide (r1 ≥ 0))))]) (L' := []) (ob := [(true = true → CX Try.prog 29 [.agg [.val (.int .i64 a0.f_Kind), .str a0.f_Text, .recs (α := List UInt8) [] E_string a0.f_Keys, .tree (α := S_api_Node) (S_api_Node.mk 0 [] [] []) pre_S_api_Node kids_S_api_Node a0.f_Kids], .val (.int .i64 1), .val (.int .i64 2000)] (.val (.int .i64 r1)))]) (by kernel_rfl) (AllP.cons (fun _ => cx (ok_ref08_Left n a0 1 2000 _ hr1)) AllP.nil) ?_
  refine To.thenN ?_
  refine Wp.ret ?_
  refine To.keep (kk := [2]) (kl := []) (K' := [(2, .val (.bool (decide (r1 ≥ 0))))]) (L' := []) (by kernel_rfl) (by kernel_rfl) ?_
  cases h
  exact To.done hΓ (by kernel_rfl)
def law08_NodePuts (n : Nat) (a0 : S_api_Node) (a1 : S_api_Node) (a2 : List UInt8) (a3 : List UInt8) : Option (Bool) :=
  (ref08_Small n a0 300).bind fun r1 =>
  ((if ((!r1) == false) = true then ref08_Small n a1 300 else some false)).bind fun r2 =>
  if (bif (bif (bif (!r1) then true else (!r2)) then true else (a0.f_Kind == 1)) then true else (a0.f_Kind == 2)) = true then ((law08_awake n).bind fun r3 =>
  some r3)
  else ((node_With n a0 a2 a1).bind fun r4 =>
  (ref08_With n a0 a2 a1).bind fun r5 =>
  (ref08_Right n r5).bind fun r6 =>
  if (!r6) = true then ((law08_awake n).bind fun r7 =>
  some r7)
  else ((node_Less n r4 a2).bind fun r8 =>
  (node_Get n r4 a2).bind fun r9 =>
  (node_Get n r8 a2).bind fun r10 =>
  ((if ((bif (!r9.2) then true else r10.2) == false) = true then node_Same n r9.1 a1 else some false)).bind fun r11 =>
  lett ((bif (bif (bif (!r9.2) then true else r10.2) then true else (!r11)) then true else ((List.length r8.f_Keys : Int) != (IntKind.wrap .i64 ((List.length r4.f_Keys : Int) - 1)))) : Bool) fun x12 =>
  if x12 = true then some false
  else (if (a2 == a3) = true then ((law08_awake n).bind fun r13 =>
  some r13)
  else ((node_Get n a0 a3).bind fun r14 =>
  (node_Get n r4 a3).bind fun r15 =>
  (node_Get n r8 a3).bind fun r16 =>
  ((if ((bif (r14.2 == r15.2) then (r15.2 == r16.2) else false) == true) = true then node_Same n r14.1 r15.1 else some false)).bind fun r17 =>
  ((if ((bif (bif (r14.2 == r15.2) then (r15.2 == r16.2) else false) then r17 else false) == true) = true then node_Same n r15.1 r16.1 else some false)).bind fun r18 =>
  ((if ((bif (bif (bif (r14.2 == r15.2) then (r15.2 == r16.2) else false) then r17 else false) then r18 else false) == true) = true then law08_awake n else some false)).bind fun r19 =>
  lett ((bif (bif (bif (bif (r14.2 == r15.2) then (r15.2 == r16.2) else false) then r17 else false) then r18 else false) then r19 else false) : Bool) fun x20 =>
  some x20))))
theorem ok_law08_NodePuts (n : Nat) (a0 : S_api_Node) (a1 : S_api_Node) (a2 : List UInt8) (a3 : List UInt8) (r : Bool) (h : law08_NodePuts n a0 a1 a2 a3 = some r) : CallsX Try.prog 5 [.agg [.val (.int .i64 a0.f_Kind), .str a0.f_Text, .recs (α := List UInt8) [] E_string a0.f_Keys, .tree (α := S_api_Node) (S_api_Node.mk 0 [] [] []) pre_S_api_Node kids_S_api_Node a0.f_Kids], .agg [.val (.int .i64 a1.f_Kind), .str a1.f_Text, .recs (α := List UInt8) [] E_string a1.f_Keys, .tree (α := S_api_Node) (S_api_Node.mk 0 [] [] []) pre_S_api_Node kids_S_api_Node a1.f_Kids], .str a2, .str a3] (.val (.bool r)) := by
  unfold law08_NodePuts at h
  refine callsX_of (fn := Try.f5) (by kernel_rfl) rfl (by kernel_rfl) (Nat.le_of_ble_eq_true (by kernel_rfl)) fun F0 w0 _ => ?_
  refine Wp.keep (kk := [0, 1, 2, 3]) (kl := []) (K' := [(0, .agg [.val (.int .i64 a0.f_Kind), .str a0.f_Text, .recs (α := List UInt8) [] E_string a0.f_Keys, .tree (α := S_api_Node) (S_api_Node.mk 0 [] [] []) pre_S_api_Node kids_S_api_Node a0.f_Kids]), (1, .agg [.val (.int .i64 a1.f_Kind), .str a1.f_Text, .recs (α := List UInt8) [] E_string a1.f_Keys, .tree (α := S_api_Node) (S_api_Node.mk 0 [] [] []) pre_S_api_Node kids_S_api_Node a1.f_Kids]), (2, .str a2), (3, .str a3)]) (L' := []) (by kernel_rfl) (by kernel_rfl) ?_
  refine Wp.seq ?_
  refine Wp.region hΓ [] [] [] [2, 3, 4, 5] [4, 5] (K' := [(2, .str a2), (3, .str a3), (4, .own 4 0), (5, .own 5 0)]) (L' := [(4, 25, [.val (.int .i64 a0.f_Kind), .str a0.f_Text, .recs (α := List UInt8) [] E_string a0.f_Keys, .tree (α := S_api_Node) (S_api_Node.mk 0 [] [] []) pre_S_api_Node kids_S_api_Node a0.f_Kids]), (5, 25, [.val (.int .i64 a1.f_Kind), .str a1.f_Text, .recs (α := List UInt8) [] E_string a1.f_Keys, .tree (α := S_api_Node) (S_api_Node.mk 0 [] [] []) pre_S_api_Node kids_S_api_Node a1.f_Kids])]) (ob := []) (by kernel_rfl) AllP.nil ?_
  refine To.thenN ?_
  refine Wp.seq ?_
  refine Wp.seq ?_
  obtain ⟨r1, hr1, h⟩ := bind_of h
  obtain ⟨r2, hr2, h⟩ := bind_of h
  refine Wp.region hΓ [] [(1, .val (.bool r1)), (5, .val (.bool r2))] [] [2, 3, 4, 5, 38] [4, 5] (K' := [(2, .str a2), (3, .str a3), (4, .own 4 0), (5, .own 5 0), (38, .val (.bool (bif (bif (bif (!r1) then true else (!r2)) then true else (a0.f_Kind == 1)) then true else (a0.f_Kind == 2))))]) (L' := [(4, 25, [.val (.int .i64 a0.f_Kind), .str a0.f_Text, .recs (α := List UInt8) [] E_string a0.f_Keys, .tree (α := S_api_Node) (S_api_Node.mk 0 [] [] []) pre_S_api_Node kids_S_api_Node a0.f_Kids]), (5, 25, [.val (.int .i64 a1.f_Kind), .str a1.f_Text, .recs (α := List UInt8) [] E_string a1.f_Keys, .tree (α := S_api_Node) (S_api_Node.mk 0 [] [] []) pre_S_api_Node kids_S_api_Node a1.f_Kids])]) (ob := [(true = true → CX Try.prog 6 [.agg [.val (.int .i64 a0.f_Kind), .str a0.f_Text, .recs (α := List UInt8) [] E_string a0.f_Keys, .tree (α := S_api_Node) (S_api_Node.mk 0 [] [] []) pre_S_api_Node kids_S_api_Node a0.f_Kids], .val (.int .i64 300)] (.val (.bool r1))), (((!r1) == false) = true → CX Try.prog 6 [.agg [.val (.int .i64 a1.f_Kind), .str a1.f_Text, .recs (α := List UInt8) [] E_string a1.f_Keys, .tree (α := S_api_Node) (S_api_Node.mk 0 [] [] []) pre_S_api_Node kids_S_api_Node a1.f_Kids], .val (.int .i64 300)] (.val (.bool r2)))]) (by kernel_rfl) (AllP.cons (fun _ => cx (ok_ref08_Small n a0 300 _ hr1)) (AllP.cons (fun hg => cx (ok_ref08_Small n a1 300 _ (if_t hg hr2))) AllP.nil)) ?_
  refine To.thenN ?_
  refine Wp.cond (b := (bif (bif (bif (!r1) then true else (!r2)) then true else (a0.f_Kind == 1)) then true else (a0.f_Kind == 2))) (by kernel_rfl) (fun hb => ?_) (fun hb => ?_)
  · replace h := if_t hb h
    refine Wp.seq ?_
    obtain ⟨r3, hr3, h⟩ := bind_of h
    refine Wp.region hΓ [] [(0, .val (.bool r3))] [] [8] [] (K' := [(8, .val (.bool r3))]) (L' := []) (ob := [(true = true → CX Try.prog 7 [] (.val (.bool r3)))]) (by kernel_rfl) (AllP.cons (fun _ => cx (ok_law08_awake n  _ hr3)) AllP.nil) ?_
    refine To.thenN ?_
    refine Wp.ret ?_
    refine To.thenR ?_
    refine To.keep (kk := [8]) (kl := []) (K' := [(8, .val (.bool r3))]) (L' := []) (by kernel_rfl) (by kernel_rfl) ?_
    cases h
    exact To.done hΓ (by kernel_rfl)
  · replace h := if_f hb h
    refine Wp.skip ?_
    refine To.thenN ?_
    refine Wp.seq ?_
    obtain ⟨r4, hr4, h⟩ := bind_of h
    refine Wp.region hΓ [] [(3, .agg [.val (.int .i64 r4.f_Kind), .str r4.f_Text, .recs (α := List UInt8) [] E_string r4.f_Keys, .tree (α := S_api_Node) (S_api_Node.mk 0 [] [] []) pre_S_api_Node kids_S_api_Node r4.f_Kids])] [] [2, 3, 4, 5, 9] [4, 5, 9] (K' := [(2, .str a2), (3, .str a3), (4, .own 4 0), (5, .own 5 0), (9, .own 9 0)]) (L' := [(4, 25, [.val (.int .i64 a0.f_Kind), .str a0.f_Text, .recs (α := List UInt8) [] E_string a0.f_Keys, .tree (α := S_api_Node) (S_api_Node.mk 0 [] [] []) pre_S_api_Node kids_S_api_Node a0.f_Kids]), (5, 25, [.val (.int .i64 a1.f_Kind), .str a1.f_Text, .recs (α := List UInt8) [] E_string a1.f_Keys, .tree (α := S_api_Node) (S_api_Node.mk 0 [] [] []) pre_S_api_Node kids_S_api_Node a1.f_Kids]), (9, 25, [.val (.int .i64 r4.f_Kind), .str r4.f_Text, .recs (α := List UInt8) [] E_string r4.f_Keys, .tree (α := S_api_Node) (S_api_Node.mk 0 [] [] []) pre_S_api_Node kids_S_api_Node r4.f_Kids])]) (ob := [(true = true → CX Try.prog 23 [.agg [.val (.int .i64 a0.f_Kind), .str a0.f_Text, .recs (α := List UInt8) [] E_string a0.f_Keys, .tree (α := S_api_Node) (S_api_Node.mk 0 [] [] []) pre_S_api_Node kids_S_api_Node a0.f_Kids], .str a2, .agg [.val (.int .i64 a1.f_Kind), .str a1.f_Text, .recs (α := List UInt8) [] E_string a1.f_Keys, .tree (α := S_api_Node) (S_api_Node.mk 0 [] [] []) pre_S_api_Node kids_S_api_Node a1.f_Kids]] (.agg [.val (.int .i64 r4.f_Kind), .str r4.f_Text, .recs (α := List UInt8) [] E_string r4.f_Keys, .tree (α := S_api_Node) (S_api_Node.mk 0 [] [] []) pre_S_api_Node kids_S_api_Node r4.f_Kids]))]) (by kernel_rfl) (AllP.cons (fun _ => cx (ok_node_With n a0 a2 a1 _ hr4)) AllP.nil) ?_
    refine To.thenN ?_
    refine Wp.seq ?_
    refine Wp.seq ?_
    obtain ⟨r5, hr5, h⟩ := bind_of h
    obtain ⟨r6, hr6, h⟩ := bind_of h
    refine Wp.region hΓ [] [(3, .agg [.val (.int .i64 r5.f_Kind), .str r5.f_Text, .recs (α := List UInt8) [] E_string r5.f_Keys, .tree (α := S_api_Node) (S_api_Node.mk 0 [] [] []) pre_S_api_Node kids_S_api_Node r5.f_Kids]), (4, .val (.bool r6))] [] [2, 3, 4, 5, 9, 49] [4, 5, 9] (K' := [(2, .str a2), (3, .str a3), (4, .own 4 0), (5, .own 5 0), (9, .own 9 0), (49, .val (.bool (!r6)))]) (L' := [(4, 25, [.val (.int .i64 a0.f_Kind), .str a0.f_Text, .recs (α := List UInt8) [] E_string a0.f_Keys, .tree (α := S_api_Node) (S_api_Node.mk 0 [] [] []) pre_S_api_Node kids_S_api_Node a0.f_Kids]), (5, 25, [.val (.int .i64 a1.f_Kind), .str a1.f_Text, .recs (α := List UInt8) [] E_string a1.f_Keys, .tree (α := S_api_Node) (S_api_Node.mk 0 [] [] []) pre_S_api_Node kids_S_api_Node a1.f_Kids]), (9, 25, [.val (.int .i64 r4.f_Kind), .str r4.f_Text, .recs (α := List UInt8) [] E_string r4.f_Keys, .tree (α := S_api_Node) (S_api_Node.mk 0 [] [] []) pre_S_api_Node kids_S_api_Node r4.f_Kids])]) (ob := [(true = true → CX Try.prog 24 [.agg [.val (.int .i64 a0.f_Kind), .str a0.f_Text, .recs (α := List UInt8) [] E_string a0.f_Keys, .tree (α := S_api_Node) (S_api_Node.mk 0 [] [] []) pre_S_api_Node kids_S_api_Node a0.f_Kids], .str a2, .agg [.val (.int .i64 a1.f_Kind), .str a1.f_Text, .recs (α := List UInt8) [] E_string a1.f_Keys, .tree (α := S_api_Node) (S_api_Node.mk 0 [] [] []) pre_S_api_Node kids_S_api_Node a1.f_Kids]] (.agg [.val (.int .i64 r5.f_Kind), .str r5.f_Text, .recs (α := List UInt8) [] E_string r5.f_Keys, .tree (α := S_api_Node) (S_api_Node.mk 0 [] [] []) pre_S_api_Node kids_S_api_Node r5.f_Kids])), (true = true → CX Try.prog 28 [.agg [.val (.int .i64 r5.f_Kind), .str r5.f_Text, .recs (α := List UInt8) [] E_string r5.f_Keys, .tree (α := S_api_Node) (S_api_Node.mk 0 [] [] []) pre_S_api_Node kids_S_api_Node r5.f_Kids]] (.val (.bool r6)))]) (by kernel_rfl) (AllP.cons (fun _ => cx (ok_ref08_With n a0 a2 a1 _ hr5)) (AllP.cons (fun _ => cx (ok_ref08_Right n r5 _ hr6)) AllP.nil)) ?_
    refine To.thenN ?_
    refine Wp.cond (b := (!r6)) (by kernel_rfl) (fun hb => ?_) (fun hb => ?_)
    · replace h := if_t hb h
      refine Wp.seq ?_
      obtain ⟨r7, hr7, h⟩ := bind_of h
      refine Wp.region hΓ [] [(0, .val (.bool r7))] [] [8] [] (K' := [(8, .val (.bool r7))]) (L' := []) (ob := [(true = true → CX Try.prog 7 [] (.val (.bool r7)))]) (by kernel_rfl) (AllP.cons (fun _ => cx (ok_law08_awake n  _ hr7)) AllP.nil) ?_
      refine To.thenN ?_
      refine Wp.ret ?_
      refine To.thenR ?_
      refine To.keep (kk := [8]) (kl := []) (K' := [(8, .val (.bool r7))]) (L' := []) (by kernel_rfl) (by kernel_rfl) ?_
      cases h
      exact To.done hΓ (by kernel_rfl)
    · replace h := if_f hb h
      refine Wp.skip ?_
      refine To.thenN ?_
      refine Wp.seq ?_
      obtain ⟨r8, hr8, h⟩ := bind_of h
      refine Wp.region hΓ [] [(2, .agg [.val (.int .i64 r8.f_Kind), .str r8.f_Text, .recs (α := List UInt8) [] E_string r8.f_Keys, .tree (α := S_api_Node) (S_api_Node.mk 0 [] [] []) pre_S_api_Node kids_S_api_Node r8.f_Kids])] [] [2, 3, 4, 5, 9, 10] [4, 5, 9, 10] (K' := [(2, .str a2), (3, .str a3), (4, .own 4 0), (5, .own 5 0), (9, .own 9 0), (10, .own 10 0)]) (L' := [(4, 25, [.val (.int .i64 a0.f_Kind), .str a0.f_Text, .recs (α := List UInt8) [] E_string a0.f_Keys, .tree (α := S_api_Node) (S_api_Node.mk 0 [] [] []) pre_S_api_Node kids_S_api_Node a0.f_Kids]), (5, 25, [.val (.int .i64 a1.f_Kind), .str a1.f_Text, .recs (α := List UInt8) [] E_string a1.f_Keys, .tree (α := S_api_Node) (S_api_Node.mk 0 [] [] []) pre_S_api_Node kids_S_api_Node a1.f_Kids]), (9, 25, [.val (.int .i64 r4.f_Kind), .str r4.f_Text, .recs (α := List UInt8) [] E_string r4.f_Keys, .tree (α := S_api_Node) (S_api_Node.mk 0 [] [] []) pre_S_api_Node kids_S_api_Node r4.f_Kids]), (10, 25, [.val (.int .i64 r8.f_Kind), .str r8.f_Text, .recs (α := List UInt8) [] E_string r8.f_Keys, .tree (α := S_api_Node) (S_api_Node.mk 0 [] [] []) pre_S_api_Node kids_S_api_Node r8.f_Kids])]) (ob := [(true = true → CX Try.prog 25 [.agg [.val (.int .i64 r4.f_Kind), .str r4.f_Text, .recs (α := List UInt8) [] E_string r4.f_Keys, .tree (α := S_api_Node) (S_api_Node.mk 0 [] [] []) pre_S_api_Node kids_S_api_Node r4.f_Kids], .str a2] (.agg [.val (.int .i64 r8.f_Kind), .str r8.f_Text, .recs (α := List UInt8) [] E_string r8.f_Keys, .tree (α := S_api_Node) (S_api_Node.mk 0 [] [] []) pre_S_api_Node kids_S_api_Node r8.f_Kids]))]) (by kernel_rfl) (AllP.cons (fun _ => cx (ok_node_Less n r4 a2 _ hr8)) AllP.nil) ?_
      refine To.thenN ?_
      refine Wp.seq ?_
      obtain ⟨r9, hr9, h⟩ := bind_of h
      refine Wp.region hΓ [] [(2, .tup [.agg [.val (.int .i64 r9.1.f_Kind), .str r9.1.f_Text, .recs (α := List UInt8) [] E_string r9.1.f_Keys, .tree (α := S_api_Node) (S_api_Node.mk 0 [] [] []) pre_S_api_Node kids_S_api_Node r9.1.f_Kids], .val (.bool r9.2)])] [] [2, 3, 4, 5, 9, 10, 11, 12] [4, 5, 9, 10, 11] (K' := [(2, .str a2), (3, .str a3), (4, .own 4 0), (5, .own 5 0), (9, .own 9 0), (10, .own 10 0), (11, .own 11 0), (12, .val (.bool r9.2))]) (L' := [(4, 25, [.val (.int .i64 a0.f_Kind), .str a0.f_Text, .recs (α := List UInt8) [] E_string a0.f_Keys, .tree (α := S_api_Node) (S_api_Node.mk 0 [] [] []) pre_S_api_Node kids_S_api_Node a0.f_Kids]), (5, 25, [.val (.int .i64 a1.f_Kind), .str a1.f_Text, .recs (α := List UInt8) [] E_string a1.f_Keys, .tree (α := S_api_Node) (S_api_Node.mk 0 [] [] []) pre_S_api_Node kids_S_api_Node a1.f_Kids]), (9, 25, [.val (.int .i64 r4.f_Kind), .str r4.f_Text, .recs (α := List UInt8) [] E_string r4.f_Keys, .tree (α := S_api_Node) (S_api_Node.mk 0 [] [] []) pre_S_api_Node kids_S_api_Node r4.f_Kids]), (10, 25, [.val (.int .i64 r8.f_Kind), .str r8.f_Text, .recs (α := List UInt8) [] E_string r8.f_Keys, .tree (α := S_api_Node) (S_api_Node.mk 0 [] [] []) pre_S_api_Node kids_S_api_Node r8.f_Kids]), (11, 25, [.val (.int .i64 r9.1.f_Kind), .str r9.1.f_Text, .recs (α := List UInt8) [] E_string r9.1.f_Keys, .tree (α := S_api_Node) (S_api_Node.mk 0 [] [] []) pre_S_api_Node kids_S_api_Node r9.1.f_Kids])]) (ob := [(true = true → CX Try.prog 17 [.agg [.val (.int .i64 r4.f_Kind), .str r4.f_Text, .recs (α := List UInt8) [] E_string r4.f_Keys, .tree (α := S_api_Node) (S_api_Node.mk 0 [] [] []) pre_S_api_Node kids_S_api_Node r4.f_Kids], .str a2] (.tup [.agg [.val (.int .i64 r9.1.f_Kind), .str r9.1.f_Text, .recs (α := List UInt8) [] E_string r9.1.f_Keys, .tree (α := S_api_Node) (S_api_Node.mk 0 [] [] []) pre_S_api_Node kids_S_api_Node r9.1.f_Kids], .val (.bool r9.2)]))]) (by kernel_rfl) (AllP.cons (fun _ => cx (ok_node_Get n r4 a2 _ hr9)) AllP.nil) ?_
      refine To.thenN ?_
      refine Wp.seq ?_
      obtain ⟨r10, hr10, h⟩ := bind_of h
      refine Wp.region hΓ [] [(2, .tup [.agg [.val (.int .i64 r10.1.f_Kind), .str r10.1.f_Text, .recs (α := List UInt8) [] E_string r10.1.f_Keys, .tree (α := S_api_Node) (S_api_Node.mk 0 [] [] []) pre_S_api_Node kids_S_api_Node r10.1.f_Kids], .val (.bool r10.2)])] [] [2, 3, 4, 5, 9, 10, 11, 12, 14] [4, 5, 9, 10, 11] (K' := [(2, .str a2), (3, .str a3), (4, .own 4 0), (5, .own 5 0), (9, .own 9 0), (10, .own 10 0), (11, .own 11 0), (12, .val (.bool r9.2)), (14, .val (.bool r10.2))]) (L' := [(4, 25, [.val (.int .i64 a0.f_Kind), .str a0.f_Text, .recs (α := List UInt8) [] E_string a0.f_Keys, .tree (α := S_api_Node) (S_api_Node.mk 0 [] [] []) pre_S_api_Node kids_S_api_Node a0.f_Kids]), (5, 25, [.val (.int .i64 a1.f_Kind), .str a1.f_Text, .recs (α := List UInt8) [] E_string a1.f_Keys, .tree (α := S_api_Node) (S_api_Node.mk 0 [] [] []) pre_S_api_Node kids_S_api_Node a1.f_Kids]), (9, 25, [.val (.int .i64 r4.f_Kind), .str r4.f_Text, .recs (α := List UInt8) [] E_string r4.f_Keys, .tree (α := S_api_Node) (S_api_Node.mk 0 [] [] []) pre_S_api_Node kids_S_api_Node r4.f_Kids]), (10, 25, [.val (.int .i64 r8.f_Kind), .str r8.f_Text, .recs (α := List UInt8) [] E_string r8.f_Keys, .tree (α := S_api_Node) (S_api_Node.mk 0 [] [] []) pre_S_api_Node kids_S_api_Node r8.f_Kids]), (11, 25, [.val (.int .i64 r9.1.f_Kind), .str r9.1.f_Text, .recs (α := List UInt8) [] E_string r9.1.f_Keys, .tree (α := S_api_Node) (S_api_Node.mk 0 [] [] []) pre_S_api_Node kids_S_api_Node r9.1.f_Kids])]) (ob := [(true = true → CX Try.prog 17 [.agg [.val (.int .i64 r8.f_Kind), .str r8.f_Text, .recs (α := List UInt8) [] E_string r8.f_Keys, .tree (α := S_api_Node) (S_api_Node.mk 0 [] [] []) pre_S_api_Node kids_S_api_Node r8.f_Kids], .str a2] (.tup [.agg [.val (.int .i64 r10.1.f_Kind), .str r10.1.f_Text, .recs (α := List UInt8) [] E_string r10.1.f_Keys, .tree (α := S_api_Node) (S_api_Node.mk 0 [] [] []) pre_S_api_Node kids_S_api_Node r10.1.f_Kids], .val (.bool r10.2)]))]) (by kernel_rfl) (AllP.cons (fun _ => cx (ok_node_Get n r8 a2 _ hr10)) AllP.nil) ?_
      refine To.thenN ?_
      refine Wp.seq ?_
      refine Wp.seq ?_
      obtain ⟨r11, hr11, h⟩ := bind_of h
      obtain ⟨x12, hx12, h⟩ := lett_of h
      refine Wp.region hΓ [] [(8, .val (.bool r11))] [] [2, 3, 4, 9, 10, 86] [4, 9, 10] (K' := [(2, .str a2), (3, .str a3), (4, .own 4 0), (9, .own 9 0), (10, .own 10 0), (86, .val (.bool (bif (bif (bif (!r9.2) then true else r10.2) then true else (!r11)) then true else ((List.length r8.f_Keys : Int) != (IntKind.wrap .i64 ((List.length r4.f_Keys : Int) - 1))))))]) (L' := [(4, 25, [.val (.int .i64 a0.f_Kind), .str a0.f_Text, .recs (α := List UInt8) [] E_string a0.f_Keys, .tree (α := S_api_Node) (S_api_Node.mk 0 [] [] []) pre_S_api_Node kids_S_api_Node a0.f_Kids]), (9, 25, [.val (.int .i64 r4.f_Kind), .str r4.f_Text, .recs (α := List UInt8) [] E_string r4.f_Keys, .tree (α := S_api_Node) (S_api_Node.mk 0 [] [] []) pre_S_api_Node kids_S_api_Node r4.f_Kids]), (10, 25, [.val (.int .i64 r8.f_Kind), .str r8.f_Text, .recs (α := List UInt8) [] E_string r8.f_Keys, .tree (α := S_api_Node) (S_api_Node.mk 0 [] [] []) pre_S_api_Node kids_S_api_Node r8.f_Kids])]) (ob := [(((bif (!r9.2) then true else r10.2) == false) = true → CX Try.prog 16 [.agg [.val (.int .i64 r9.1.f_Kind), .str r9.1.f_Text, .recs (α := List UInt8) [] E_string r9.1.f_Keys, .tree (α := S_api_Node) (S_api_Node.mk 0 [] [] []) pre_S_api_Node kids_S_api_Node r9.1.f_Kids], .agg [.val (.int .i64 a1.f_Kind), .str a1.f_Text, .recs (α := List UInt8) [] E_string a1.f_Keys, .tree (α := S_api_Node) (S_api_Node.mk 0 [] [] []) pre_S_api_Node kids_S_api_Node a1.f_Kids]] (.val (.bool r11)))]) (by kernel_rfl) (AllP.cons (fun hg => cx (ok_node_Same n r9.1 a1 _ (if_t hg hr11))) AllP.nil) ?_
      refine To.eq (K' := [(2, .str a2), (3, .str a3), (4, .own 4 0), (9, .own 9 0), (10, .own 10 0), (86, .val (.bool x12))]) (L' := [(4, 25, [.val (.int .i64 a0.f_Kind), .str a0.f_Text, .recs (α := List UInt8) [] E_string a0.f_Keys, .tree (α := S_api_Node) (S_api_Node.mk 0 [] [] []) pre_S_api_Node kids_S_api_Node a0.f_Kids]), (9, 25, [.val (.int .i64 r4.f_Kind), .str r4.f_Text, .recs (α := List UInt8) [] E_string r4.f_Keys, .tree (α := S_api_Node) (S_api_Node.mk 0 [] [] []) pre_S_api_Node kids_S_api_Node r4.f_Kids]), (10, 25, [.val (.int .i64 r8.f_Kind), .str r8.f_Text, .recs (α := List UInt8) [] E_string r8.f_Keys, .tree (α := S_api_Node) (S_api_Node.mk 0 [] [] []) pre_S_api_Node kids_S_api_Node r8.f_Kids])]) (by cases hx12; rfl) (by cases hx12; rfl) ?_
      refine To.thenN ?_
      refine Wp.cond (b := x12) (by kernel_rfl) (fun hb => ?_) (fun hb => ?_)
      · replace h := if_t hb h
        refine Wp.seq ?_
        refine Wp.region hΓ [] [] [] [8] [] (K' := [(8, .val (.bool false))]) (L' := []) (ob := []) (by kernel_rfl) AllP.nil ?_
        refine To.thenN ?_
        refine Wp.ret ?_
        refine To.thenR ?_
        refine To.keep (kk := [8]) (kl := []) (K' := [(8, .val (.bool false))]) (L' := []) (by kernel_rfl) (by kernel_rfl) ?_
        cases h
        exact To.done hΓ (by kernel_rfl)
      · replace h := if_f hb h
        refine Wp.skip ?_
        refine To.thenN ?_
        refine Wp.seq ?_
        refine Wp.seq ?_
        refine Wp.region hΓ [] [] [] [3, 4, 9, 10, 89] [4, 9, 10] (K' := [(3, .str a3), (4, .own 4 0), (9, .own 9 0), (10, .own 10 0), (89, .val (.bool (a2 == a3)))]) (L' := [(4, 25, [.val (.int .i64 a0.f_Kind), .str a0.f_Text, .recs (α := List UInt8) [] E_string a0.f_Keys, .tree (α := S_api_Node) (S_api_Node.mk 0 [] [] []) pre_S_api_Node kids_S_api_Node a0.f_Kids]), (9, 25, [.val (.int .i64 r4.f_Kind), .str r4.f_Text, .recs (α := List UInt8) [] E_string r4.f_Keys, .tree (α := S_api_Node) (S_api_Node.mk 0 [] [] []) pre_S_api_Node kids_S_api_Node r4.f_Kids]), (10, 25, [.val (.int .i64 r8.f_Kind), .str r8.f_Text, .recs (α := List UInt8) [] E_string r8.f_Keys, .tree (α := S_api_Node) (S_api_Node.mk 0 [] [] []) pre_S_api_Node kids_S_api_Node r8.f_Kids])]) (ob := []) (by kernel_rfl) AllP.nil ?_
        refine To.thenN ?_
        refine Wp.cond (b := (a2 == a3)) (by kernel_rfl) (fun hb => ?_) (fun hb => ?_)
        · replace h := if_t hb h
          refine Wp.seq ?_
          obtain ⟨r13, hr13, h⟩ := bind_of h
          refine Wp.region hΓ [] [(0, .val (.bool r13))] [] [8] [] (K' := [(8, .val (.bool r13))]) (L' := []) (ob := [(true = true → CX Try.prog 7 [] (.val (.bool r13)))]) (by kernel_rfl) (AllP.cons (fun _ => cx (ok_law08_awake n  _ hr13)) AllP.nil) ?_
          refine To.thenN ?_
          refine Wp.ret ?_
          refine To.thenR ?_
          refine To.keep (kk := [8]) (kl := []) (K' := [(8, .val (.bool r13))]) (L' := []) (by kernel_rfl) (by kernel_rfl) ?_
          cases h
          exact To.done hΓ (by kernel_rfl)
        · replace h := if_f hb h
          refine Wp.skip ?_
          refine To.thenN ?_
          refine Wp.seq ?_
          obtain ⟨r14, hr14, h⟩ := bind_of h
          refine Wp.region hΓ [] [(2, .tup [.agg [.val (.int .i64 r14.1.f_Kind), .str r14.1.f_Text, .recs (α := List UInt8) [] E_string r14.1.f_Keys, .tree (α := S_api_Node) (S_api_Node.mk 0 [] [] []) pre_S_api_Node kids_S_api_Node r14.1.f_Kids], .val (.bool r14.2)])] [] [3, 9, 10, 15, 16] [9, 10, 15] (K' := [(3, .str a3), (9, .own 9 0), (10, .own 10 0), (15, .own 15 0), (16, .val (.bool r14.2))]) (L' := [(9, 25, [.val (.int .i64 r4.f_Kind), .str r4.f_Text, .recs (α := List UInt8) [] E_string r4.f_Keys, .tree (α := S_api_Node) (S_api_Node.mk 0 [] [] []) pre_S_api_Node kids_S_api_Node r4.f_Kids]), (10, 25, [.val (.int .i64 r8.f_Kind), .str r8.f_Text, .recs (α := List UInt8) [] E_string r8.f_Keys, .tree (α := S_api_Node) (S_api_Node.mk 0 [] [] []) pre_S_api_Node kids_S_api_Node r8.f_Kids]), (15, 25, [.val (.int .i64 r14.1.f_Kind), .str r14.1.f_Text, .recs (α := List UInt8) [] E_string r14.1.f_Keys, .tree (α := S_api_Node) (S_api_Node.mk 0 [] [] []) pre_S_api_Node kids_S_api_Node r14.1.f_Kids])]) (ob := [(true = true → CX Try.prog 17 [.agg [.val (.int .i64 a0.f_Kind), .str a0.f_Text, .recs (α := List UInt8) [] E_string a0.f_Keys, .tree (α := S_api_Node) (S_api_Node.mk 0 [] [] []) pre_S_api_Node kids_S_api_Node a0.f_Kids], .str a3] (.tup [.agg [.val (.int .i64 r14.1.f_Kind), .str r14.1.f_Text, .recs (α := List UInt8) [] E_string r14.1.f_Keys, .tree (α := S_api_Node) (S_api_Node.mk 0 [] [] []) pre_S_api_Node kids_S_api_Node r14.1.f_Kids], .val (.bool r14.2)]))]) (by kernel_rfl) (AllP.cons (fun _ => cx (ok_node_Get n a0 a3 _ hr14)) AllP.nil) ?_
          refine To.thenN ?_
          refine Wp.seq ?_
          obtain ⟨r15, hr15, h⟩ := bind_of h
          refine Wp.region hΓ [] [(2, .tup [.agg [.val (.int .i64 r15.1.f_Kind), .str r15.1.f_Text, .recs (α := List UInt8) [] E_string r15.1.f_Keys, .tree (α := S_api_Node) (S_api_Node.mk 0 [] [] []) pre_S_api_Node kids_S_api_Node r15.1.f_Kids], .val (.bool r15.2)])] [] [3, 10, 15, 16, 17, 18] [10, 15, 17] (K' := [(3, .str a3), (10, .own 10 0), (15, .own 15 0), (16, .val (.bool r14.2)), (17, .own 17 0), (18, .val (.bool r15.2))]) (L' := [(10, 25, [.val (.int .i64 r8.f_Kind), .str r8.f_Text, .recs (α := List UInt8) [] E_string r8.f_Keys, .tree (α := S_api_Node) (S_api_Node.mk 0 [] [] []) pre_S_api_Node kids_S_api_Node r8.f_Kids]), (15, 25, [.val (.int .i64 r14.1.f_Kind), .str r14.1.f_Text, .recs (α := List UInt8) [] E_string r14.1.f_Keys, .tree (α := S_api_Node) (S_api_Node.mk 0 [] [] []) pre_S_api_Node kids_S_api_Node r14.1.f_Kids]), (17, 25, [.val (.int .i64 r15.1.f_Kind), .str r15.1.f_Text, .recs (α := List UInt8) [] E_string r15.1.f_Keys, .tree (α := S_api_Node) (S_api_Node.mk 0 [] [] []) pre_S_api_Node kids_S_api_Node r15.1.f_Kids])]) (ob := [(true = true → CX Try.prog 17 [.agg [.val (.int .i64 r4.f_Kind), .str r4.f_Text, .recs (α := List UInt8) [] E_string r4.f_Keys, .tree (α := S_api_Node) (S_api_Node.mk 0 [] [] []) pre_S_api_Node kids_S_api_Node r4.f_Kids], .str a3] (.tup [.agg [.val (.int .i64 r15.1.f_Kind), .str r15.1.f_Text, .recs (α := List UInt8) [] E_string r15.1.f_Keys, .tree (α := S_api_Node) (S_api_Node.mk 0 [] [] []) pre_S_api_Node kids_S_api_Node r15.1.f_Kids], .val (.bool r15.2)]))]) (by kernel_rfl) (AllP.cons (fun _ => cx (ok_node_Get n r4 a3 _ hr15)) AllP.nil) ?_
          refine To.thenN ?_
          refine Wp.seq ?_
          obtain ⟨r16, hr16, h⟩ := bind_of h
          refine Wp.region hΓ [] [(2, .tup [.agg [.val (.int .i64 r16.1.f_Kind), .str r16.1.f_Text, .recs (α := List UInt8) [] E_string r16.1.f_Keys, .tree (α := S_api_Node) (S_api_Node.mk 0 [] [] []) pre_S_api_Node kids_S_api_Node r16.1.f_Kids], .val (.bool r16.2)])] [] [15, 16, 17, 18, 19, 20] [15, 17, 19] (K' := [(15, .own 15 0), (16, .val (.bool r14.2)), (17, .own 17 0), (18, .val (.bool r15.2)), (19, .own 19 0), (20, .val (.bool r16.2))]) (L' := [(15, 25, [.val (.int .i64 r14.1.f_Kind), .str r14.1.f_Text, .recs (α := List UInt8) [] E_string r14.1.f_Keys, .tree (α := S_api_Node) (S_api_Node.mk 0 [] [] []) pre_S_api_Node kids_S_api_Node r14.1.f_Kids]), (17, 25, [.val (.int .i64 r15.1.f_Kind), .str r15.1.f_Text, .recs (α := List UInt8) [] E_string r15.1.f_Keys, .tree (α := S_api_Node) (S_api_Node.mk 0 [] [] []) pre_S_api_Node kids_S_api_Node r15.1.f_Kids]), (19, 25, [.val (.int .i64 r16.1.f_Kind), .str r16.1.f_Text, .recs (α := List UInt8) [] E_string r16.1.f_Keys, .tree (α := S_api_Node) (S_api_Node.mk 0 [] [] []) pre_S_api_Node kids_S_api_Node r16.1.f_Kids])]) (ob := [(true = true → CX Try.prog 17 [.agg [.val (.int .i64 r8.f_Kind), .str r8.f_Text, .recs (α := List UInt8) [] E_string r8.f_Keys, .tree (α := S_api_Node) (S_api_Node.mk 0 [] [] []) pre_S_api_Node kids_S_api_Node r8.f_Kids], .str a3] (.tup [.agg [.val (.int .i64 r16.1.f_Kind), .str r16.1.f_Text, .recs (α := List UInt8) [] E_string r16.1.f_Keys, .tree (α := S_api_Node) (S_api_Node.mk 0 [] [] []) pre_S_api_Node kids_S_api_Node r16.1.f_Kids], .val (.bool r16.2)]))]) (by kernel_rfl) (AllP.cons (fun _ => cx (ok_node_Get n r8 a3 _ hr16)) AllP.nil) ?_
          refine To.thenN ?_
          refine Wp.seq ?_
          obtain ⟨r17, hr17, h⟩ := bind_of h
          obtain ⟨r18, hr18, h⟩ := bind_of h
          obtain ⟨r19, hr19, h⟩ := bind_of h
          obtain ⟨x20, hx20, h⟩ := lett_of h
          refine Wp.region hΓ [] [(11, .val (.bool r17)), (16, .val (.bool r18)), (19, .val (.bool r19))] [] [8] [] (K' := [(8, .val (.bool (bif (bif (bif (bif (r14.2 == r15.2) then (r15.2 == r16.2) else false) then r17 else false) then r18 else false) then r19 else false)))]) (L' := []) (ob := [(((bif (r14.2 == r15.2) then (r15.2 == r16.2) else false) == true) = true → CX Try.prog 16 [.agg [.val (.int .i64 r14.1.f_Kind), .str r14.1.f_Text, .recs (α := List UInt8) [] E_string r14.1.f_Keys, .tree (α := S_api_Node) (S_api_Node.mk 0 [] [] []) pre_S_api_Node kids_S_api_Node r14.1.f_Kids], .agg [.val (.int .i64 r15.1.f_Kind), .str r15.1.f_Text, .recs (α := List UInt8) [] E_string r15.1.f_Keys, .tree (α := S_api_Node) (S_api_Node.mk 0 [] [] []) pre_S_api_Node kids_S_api_Node r15.1.f_Kids]] (.val (.bool r17))), (((bif (bif (r14.2 == r15.2) then (r15.2 == r16.2) else false) then r17 else false) == true) = true → CX Try.prog 16 [.agg [.val (.int .i64 r15.1.f_Kind), .str r15.1.f_Text, .recs (α := List UInt8) [] E_string r15.1.f_Keys, .tree (α := S_api_Node) (S_api_Node.mk 0 [] [] []) pre_S_api_Node kids_S_api_Node r15.1.f_Kids], .agg [.val (.int .i64 r16.1.f_Kind), .str r16.1.f_Text, .recs (α := List UInt8) [] E_string r16.1.f_Keys, .tree (α := S_api_Node) (S_api_Node.mk 0 [] [] []) pre_S_api_Node kids_S_api_Node r16.1.f_Kids]] (.val (.bool r18))), (((bif (bif (bif (r14.2 == r15.2) then (r15.2 == r16.2) else false) then r17 else false) then r18 else false) == true) = true → CX Try.prog 7 [] (.val (.bool r19)))]) (by kernel_rfl) (AllP.cons (fun hg => cx (ok_node_Same n r14.1 r15.1 _ (if_t hg hr17))) (AllP.cons (fun hg => cx (ok_node_Same n r15.1 r16.1 _ (if_t hg hr18))) (AllP.cons (fun hg => cx (ok_law08_awake n  _ (if_t hg hr19))) AllP.nil))) ?_
          refine To.eq (K' := [(8, .val (.bool x20))]) (L' := []) (by cases hx20; rfl) (by cases hx20; rfl) ?_
          refine To.thenN ?_
          refine Wp.ret ?_
          refine To.keep (kk := [8]) (kl := []) (K' := [(8, .val (.bool x20))]) (L' := []) (by kernel_rfl) (by kernel_rfl) ?_
          cases h
          exact To.done hΓ (by kernel_rfl)
end Go.Proofs.Ytjicbelggepaiaa.M
