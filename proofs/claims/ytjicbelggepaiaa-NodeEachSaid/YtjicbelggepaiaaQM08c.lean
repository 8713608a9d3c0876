/-
  Part of the proof of NodeEach: M08c.
-/
import Derived.Test.YtjicbelggepaiaaQM08b
set_option linter.all false
namespace Go.Proofs.Ytjicbelggepaiaa.M
open Go.RowKit Go.Proofs.Ytjicbelggepaiaa.RX
set_option maxRecDepth 100000
def ref08_Texts_j1 (R_ref08_Texts : S_api_Node → Option ((List (List UInt8)))) (n : Nat) (v3 : List (List UInt8)) (v10 : Bool) (b1 : S_api_Node) : Option ((List (List UInt8))) :=
  if v10 = true then (if (decide ((List.length v3 + List.length ([b1.f_Text] : List (List UInt8))) * (16 + 1) ≤ limit)) = true then (some (v3 ++ ([b1.f_Text] : List (List UInt8)))) else none)
  else some v3
theorem ok_ref08_Texts_j1 (R_ref08_Texts : S_api_Node → Option ((List (List UInt8)))) (hR_ref08_Texts : ∀ (a0 : S_api_Node) (r : (List (List UInt8))), R_ref08_Texts a0 = some r → CallsX Try.prog 8 [.agg [.val (.int .i64 a0.f_Kind), .str a0.f_Text, .recs (α := List UInt8) [] E_string a0.f_Keys, .tree (α := S_api_Node) (S_api_Node.mk 0 [] [] []) pre_S_api_Node kids_S_api_Node a0.f_Kids]] (.recs (α := List UInt8) [] E_string r)) (n : Nat) (v3 : List (List UInt8)) (v10 : Bool) (b1 : S_api_Node) (o : (List (List UInt8))) (h : ref08_Texts_j1 R_ref08_Texts n v3 v10 b1 = some o) {F0 : Fz} {w0 : Pt Try.prog} {Q : Exit → Act → World → Prop} (hQ : To 43 F0 w0 [(1, .own 1 0), (3, .row 1003)] [(1, 25, [.val (.int .i64 b1.f_Kind), .str b1.f_Text, .recs (α := List UInt8) [] E_string b1.f_Keys, .tree (α := S_api_Node) (S_api_Node.mk 0 [] [] []) pre_S_api_Node kids_S_api_Node b1.f_Kids]), (1003, 9, [.rowc false (α := List UInt8) [] E_string o])] .normal Q) : Wp Try.prog 43 F0 w0 [(1, .own 1 0), (3, .row 1003), (10, .val (.bool v10))] [(1, 25, [.val (.int .i64 b1.f_Kind), .str b1.f_Text, .recs (α := List UInt8) [] E_string b1.f_Keys, .tree (α := S_api_Node) (S_api_Node.mk 0 [] [] []) pre_S_api_Node kids_S_api_Node b1.f_Kids]), (1003, 9, [.rowc false (α := List UInt8) [] E_string v3])] (cB (cA (cB (cB (cF Try.f8))))) Q := by
  unfold ref08_Texts_j1 at h
  refine Wp.cond (b := v10) (by kernel_rfl) (fun hb => ?_) (fun hb => ?_)
  · replace h := if_t hb h
    obtain ⟨hc1, h⟩ := chk_of h
    refine Wp.region hΓ [] [(3, .recs (α := List UInt8) [] E_string [b1.f_Text]), (4, .recs (α := List UInt8) [] E_string (v3 ++ ([b1.f_Text] : List (List UInt8))))] [] [1, 3] [1, 15] (K' := [(1, .own 1 0), (3, .row 15)]) (L' := [(1, 25, [.val (.int .i64 b1.f_Kind), .str b1.f_Text, .recs (α := List UInt8) [] E_string b1.f_Keys, .tree (α := S_api_Node) (S_api_Node.mk 0 [] [] []) pre_S_api_Node kids_S_api_Node b1.f_Kids]), (15, 9, [.rowc false (α := List UInt8) [] E_string (v3 ++ ([b1.f_Text] : List (List UInt8)))])]) (ob := [(MkOb 1 [.str b1.f_Text] 1 (.recs (α := List UInt8) [] E_string [b1.f_Text]) ∧ GoodR (.recs (α := List UInt8) [] E_string [b1.f_Text])), (decide ((List.length v3 + List.length ([b1.f_Text] : List (List UInt8))) * (16 + 1) ≤ limit)) = true, (AppOb [] E_string v3 (List.flatMap E_string ([b1.f_Text] : List (List UInt8))) (List.length ([b1.f_Text] : List (List UInt8))) (.recs (α := List UInt8) [] E_string (v3 ++ ([b1.f_Text] : List (List UInt8)))) ∧ GoodR (.recs (α := List UInt8) [] E_string (v3 ++ ([b1.f_Text] : List (List UInt8)))))]) (by kernel_rfl) (AllP.cons (mkOb (by kernel_rfl) rfl (by kernel_rfl) (good_E_string _)) (AllP.cons hc1 (AllP.cons (appOb rfl rfl (good_E_string _)) AllP.nil))) ?_
    refine To.keep (kk := [1, 3]) (kl := [1, 15]) (K' := [(1, .own 1 0), (3, .row 15)]) (L' := [(1, 25, [.val (.int .i64 b1.f_Kind), .str b1.f_Text, .recs (α := List UInt8) [] E_string b1.f_Keys, .tree (α := S_api_Node) (S_api_Node.mk 0 [] [] []) pre_S_api_Node kids_S_api_Node b1.f_Kids]), (15, 9, [.rowc false (α := List UInt8) [] E_string (v3 ++ ([b1.f_Text] : List (List UInt8)))])]) (by kernel_rfl) (by kernel_rfl) ?_
    refine To.pre (St.rename 15 1003 (by decide) (K' := [(1, .own 1 0), (3, .row 1003)]) (L' := [(1, 25, [.val (.int .i64 b1.f_Kind), .str b1.f_Text, .recs (α := List UInt8) [] E_string b1.f_Keys, .tree (α := S_api_Node) (S_api_Node.mk 0 [] [] []) pre_S_api_Node kids_S_api_Node b1.f_Kids]), (1003, 9, [.rowc false (α := List UInt8) [] E_string (v3 ++ ([b1.f_Text] : List (List UInt8)))])]) (by kernel_rfl) (by kernel_rfl) (by kernel_rfl)) ?_
    refine To.keep (kk := [1, 3]) (kl := [1, 1003]) (K' := [(1, .own 1 0), (3, .row 1003)]) (L' := [(1, 25, [.val (.int .i64 b1.f_Kind), .str b1.f_Text, .recs (α := List UInt8) [] E_string b1.f_Keys, .tree (α := S_api_Node) (S_api_Node.mk 0 [] [] []) pre_S_api_Node kids_S_api_Node b1.f_Kids]), (1003, 9, [.rowc false (α := List UInt8) [] E_string (v3 ++ ([b1.f_Text] : List (List UInt8)))])]) (by kernel_rfl) (by kernel_rfl) ?_
    cases h
    exact hQ
  · replace h := if_f hb h
    refine Wp.skip ?_
    refine To.keep (kk := [1, 3]) (kl := [1, 1003]) (K' := [(1, .own 1 0), (3, .row 1003)]) (L' := [(1, 25, [.val (.int .i64 b1.f_Kind), .str b1.f_Text, .recs (α := List UInt8) [] E_string b1.f_Keys, .tree (α := S_api_Node) (S_api_Node.mk 0 [] [] []) pre_S_api_Node kids_S_api_Node b1.f_Kids]), (1003, 9, [.rowc false (α := List UInt8) [] E_string v3])]) (by kernel_rfl) (by kernel_rfl) ?_
    cases h
    exact hQ
def ref08_Texts_l3 (R_ref08_Texts : S_api_Node → Option ((List (List UInt8)))) (n : Nat) (v4 : Int) (v5 : List (List UInt8)) (b1 : S_api_Node) : Nat → (List (List UInt8)) → Int → Option ((List (List UInt8)))
  | 0, _, _ => none
  | k + 1, v3, v6 => if (decide (v6 < (List.length v5 : Int))) = true then (if (decide (0 ≤ v6 ∧ v6 < (List.length v5 : Int))) = true then (if (decide ((List.length v3 + List.length ([((v5)[Int.toNat v6]?.getD [])] : List (List UInt8))) * (16 + 1) ≤ limit)) = true then (ref08_Texts_l3 R_ref08_Texts n v4 v5 b1 k (v3 ++ ([((v5)[Int.toNat v6]?.getD [])] : List (List UInt8))) (IntKind.wrap .i64 (v6 + 1))) else none) else none)
  else some v3
theorem ok_ref08_Texts_l3 (R_ref08_Texts : S_api_Node → Option ((List (List UInt8)))) (hR_ref08_Texts : ∀ (a0 : S_api_Node) (r : (List (List UInt8))), R_ref08_Texts a0 = some r → CallsX Try.prog 8 [.agg [.val (.int .i64 a0.f_Kind), .str a0.f_Text, .recs (α := List UInt8) [] E_string a0.f_Keys, .tree (α := S_api_Node) (S_api_Node.mk 0 [] [] []) pre_S_api_Node kids_S_api_Node a0.f_Kids]] (.recs (α := List UInt8) [] E_string r)) (n : Nat) (v4 : Int) (v5 : List (List UInt8)) (b1 : S_api_Node) {F0 : Fz} {w0 : Pt Try.prog} {Q : Exit → Act → World → Prop} (k : Nat) : ∀ (v3 : List (List UInt8)) (v6 : Int) (o : (List (List UInt8))), ref08_Texts_l3 R_ref08_Texts n v4 v5 b1 k v3 v6 = some o → To 43 F0 w0 [(1, .own 1 0), (3, .row 1003), (4, .val (.int .i64 v4))] [(1, 25, [.val (.int .i64 b1.f_Kind), .str b1.f_Text, .recs (α := List UInt8) [] E_string b1.f_Keys, .tree (α := S_api_Node) (S_api_Node.mk 0 [] [] []) pre_S_api_Node kids_S_api_Node b1.f_Kids]), (1003, 9, [.rowc false (α := List UInt8) [] E_string o])] (.exit 2) Q → WL Try.prog 43 F0 w0 [(1, .own 1 0), (3, .row 1003), (4, .val (.int .i64 v4)), (5, .recs (α := List UInt8) [] E_string v5), (6, .val (.int .i64 v6))] [(1, 25, [.val (.int .i64 b1.f_Kind), .str b1.f_Text, .recs (α := List UInt8) [] E_string b1.f_Keys, .tree (α := S_api_Node) (S_api_Node.mk 0 [] [] []) pre_S_api_Node kids_S_api_Node b1.f_Kids]), (1003, 9, [.rowc false (α := List UInt8) [] E_string v3])] (cI (cI (cB (cB (cI (cA (cB (cI (cI (cB (cA (cB (cB (cB (cF Try.f8))))))))))))))) Q := by
  induction k with
  | zero => intro v3 v6 o h; cases h
  | succ k ih =>
    intro v3 v6 o h hQ
    rw [ref08_Texts_l3] at h
    refine WL.round ?_
    refine Wp.seq ?_
    refine Wp.seq ?_
    refine Wp.region hΓ [] [] [] [1, 3, 4, 5, 6, 32] [1, 1003] (K' := [(1, .own 1 0), (3, .row 1003), (4, .val (.int .i64 v4)), (5, .recs (α := List UInt8) [] E_string v5), (6, .val (.int .i64 v6)), (32, .val (.bool (decide (v6 < (List.length v5 : Int)))))]) (L' := [(1, 25, [.val (.int .i64 b1.f_Kind), .str b1.f_Text, .recs (α := List UInt8) [] E_string b1.f_Keys, .tree (α := S_api_Node) (S_api_Node.mk 0 [] [] []) pre_S_api_Node kids_S_api_Node b1.f_Kids]), (1003, 9, [.rowc false (α := List UInt8) [] E_string v3])]) (ob := []) (by kernel_rfl) AllP.nil ?_
    refine To.thenN ?_
    refine Wp.cond (b := (decide (v6 < (List.length v5 : Int)))) (by kernel_rfl) (fun hb => ?_) (fun hb => ?_)
    · replace h := if_t hb h
      refine Wp.skip ?_
      refine To.thenN ?_
      refine Wp.seq ?_
      refine Wp.block ?_
      obtain ⟨hc3, h⟩ := chk_of h
      obtain ⟨hc4, h⟩ := chk_of h
      refine Wp.region hΓ [] [(5, .recs (α := List UInt8) [] E_string ([((v5)[Int.toNat v6]?.getD [])])), (6, .recs (α := List UInt8) [] E_string (v3 ++ ([((v5)[Int.toNat v6]?.getD [])] : List (List UInt8))))] [] [1, 3, 4, 5, 6] [1, 41] (K' := [(1, .own 1 0), (3, .row 41), (4, .val (.int .i64 v4)), (5, .recs (α := List UInt8) [] E_string v5), (6, .val (.int .i64 v6))]) (L' := [(1, 25, [.val (.int .i64 b1.f_Kind), .str b1.f_Text, .recs (α := List UInt8) [] E_string b1.f_Keys, .tree (α := S_api_Node) (S_api_Node.mk 0 [] [] []) pre_S_api_Node kids_S_api_Node b1.f_Kids]), (41, 9, [.rowc false (α := List UInt8) [] E_string (v3 ++ ([((v5)[Int.toNat v6]?.getD [])] : List (List UInt8)))])]) (ob := [(decide (0 ≤ v6 ∧ v6 < (List.length v5 : Int))) = true, (MkOb 1 [.str ((v5)[Int.toNat v6]?.getD [])] 1 (.recs (α := List UInt8) [] E_string ([((v5)[Int.toNat v6]?.getD [])])) ∧ GoodR (.recs (α := List UInt8) [] E_string ([((v5)[Int.toNat v6]?.getD [])]))), (decide ((List.length v3 + List.length ([((v5)[Int.toNat v6]?.getD [])] : List (List UInt8))) * (16 + 1) ≤ limit)) = true, (AppOb [] E_string v3 (List.flatMap E_string ([((v5)[Int.toNat v6]?.getD [])] : List (List UInt8))) (List.length ([((v5)[Int.toNat v6]?.getD [])] : List (List UInt8))) (.recs (α := List UInt8) [] E_string (v3 ++ ([((v5)[Int.toNat v6]?.getD [])] : List (List UInt8)))) ∧ GoodR (.recs (α := List UInt8) [] E_string (v3 ++ ([((v5)[Int.toNat v6]?.getD [])] : List (List UInt8)))))]) (by kernel_rfl) (AllP.cons hc3 (AllP.cons (mkOb (by kernel_rfl) rfl (by kernel_rfl) (good_E_string _)) (AllP.cons hc4 (AllP.cons (appOb rfl rfl (good_E_string _)) AllP.nil)))) ?_
      refine To.blockN ?_
      refine To.thenN ?_
      refine Wp.region hΓ [] [] [] [1, 3, 4, 5, 6] [1, 41] (K' := [(1, .own 1 0), (3, .row 41), (4, .val (.int .i64 v4)), (5, .recs (α := List UInt8) [] E_string v5), (6, .val (.int .i64 (IntKind.wrap .i64 (v6 + 1))))]) (L' := [(1, 25, [.val (.int .i64 b1.f_Kind), .str b1.f_Text, .recs (α := List UInt8) [] E_string b1.f_Keys, .tree (α := S_api_Node) (S_api_Node.mk 0 [] [] []) pre_S_api_Node kids_S_api_Node b1.f_Kids]), (41, 9, [.rowc false (α := List UInt8) [] E_string (v3 ++ ([((v5)[Int.toNat v6]?.getD [])] : List (List UInt8)))])]) (ob := []) (by kernel_rfl) AllP.nil ?_
      refine To.keep (kk := [1, 3, 4, 5, 6]) (kl := [1, 41]) (K' := [(1, .own 1 0), (3, .row 41), (4, .val (.int .i64 v4)), (5, .recs (α := List UInt8) [] E_string v5), (6, .val (.int .i64 (IntKind.wrap .i64 (v6 + 1))))]) (L' := [(1, 25, [.val (.int .i64 b1.f_Kind), .str b1.f_Text, .recs (α := List UInt8) [] E_string b1.f_Keys, .tree (α := S_api_Node) (S_api_Node.mk 0 [] [] []) pre_S_api_Node kids_S_api_Node b1.f_Kids]), (41, 9, [.rowc false (α := List UInt8) [] E_string (v3 ++ ([((v5)[Int.toNat v6]?.getD [])] : List (List UInt8)))])]) (by kernel_rfl) (by kernel_rfl) ?_
      refine To.pre (St.rename 41 1003 (by decide) (K' := [(1, .own 1 0), (3, .row 1003), (4, .val (.int .i64 v4)), (5, .recs (α := List UInt8) [] E_string v5), (6, .val (.int .i64 (IntKind.wrap .i64 (v6 + 1))))]) (L' := [(1, 25, [.val (.int .i64 b1.f_Kind), .str b1.f_Text, .recs (α := List UInt8) [] E_string b1.f_Keys, .tree (α := S_api_Node) (S_api_Node.mk 0 [] [] []) pre_S_api_Node kids_S_api_Node b1.f_Kids]), (1003, 9, [.rowc false (α := List UInt8) [] E_string (v3 ++ ([((v5)[Int.toNat v6]?.getD [])] : List (List UInt8)))])]) (by kernel_rfl) (by kernel_rfl) (by kernel_rfl)) ?_
      refine To.keep (kk := [1, 3, 4, 5, 6]) (kl := [1, 1003]) (K' := [(1, .own 1 0), (3, .row 1003), (4, .val (.int .i64 v4)), (5, .recs (α := List UInt8) [] E_string v5), (6, .val (.int .i64 (IntKind.wrap .i64 (v6 + 1))))]) (L' := [(1, 25, [.val (.int .i64 b1.f_Kind), .str b1.f_Text, .recs (α := List UInt8) [] E_string b1.f_Keys, .tree (α := S_api_Node) (S_api_Node.mk 0 [] [] []) pre_S_api_Node kids_S_api_Node b1.f_Kids]), (1003, 9, [.rowc false (α := List UInt8) [] E_string (v3 ++ ([((v5)[Int.toNat v6]?.getD [])] : List (List UInt8)))])]) (by kernel_rfl) (by kernel_rfl) ?_
      refine To.again ?_
      exact ih (v3 ++ ([((v5)[Int.toNat v6]?.getD [])] : List (List UInt8))) (IntKind.wrap .i64 (v6 + 1)) _ h hQ
    · replace h := if_f hb h
      refine Wp.exit ?_
      refine To.thenX ?_
      refine To.thenX ?_
      refine To.keep (kk := [1, 3, 4]) (kl := [1, 1003]) (K' := [(1, .own 1 0), (3, .row 1003), (4, .val (.int .i64 v4))]) (L' := [(1, 25, [.val (.int .i64 b1.f_Kind), .str b1.f_Text, .recs (α := List UInt8) [] E_string b1.f_Keys, .tree (α := S_api_Node) (S_api_Node.mk 0 [] [] []) pre_S_api_Node kids_S_api_Node b1.f_Kids]), (1003, 9, [.rowc false (α := List UInt8) [] E_string v3])]) (by kernel_rfl) (by kernel_rfl) ?_
      cases h
      exact hQ
def ref08_Texts_l2 (R_ref08_Texts : S_api_Node → Option ((List (List UInt8)))) (n : Nat) (b1 : S_api_Node) : Nat → (List (List UInt8)) → Int → Option ((List (List UInt8)))
  | 0, _, _ => none
  | k + 1, v3, v4 => if (decide (v4 < (List.length b1.f_Kids : Int))) = true then (if (decide (0 ≤ v4 ∧ v4 < (List.length b1.f_Kids : Int))) = true then ((R_ref08_Texts (S_api_Node.mk (((b1.f_Kids)[Int.toNat v4]?.getD (S_api_Node.mk 0 [] [] [])).f_Kind) (((b1.f_Kids)[Int.toNat v4]?.getD (S_api_Node.mk 0 [] [] [])).f_Text) (((b1.f_Kids)[Int.toNat v4]?.getD (S_api_Node.mk 0 [] [] [])).f_Keys) (((b1.f_Kids)[Int.toNat v4]?.getD (S_api_Node.mk 0 [] [] [])).f_Kids))).bind fun r2 =>
  (ref08_Texts_l3 R_ref08_Texts n v4 r2 b1 n v3 0).bind fun o3 =>
  ref08_Texts_l2 R_ref08_Texts n b1 k o3 (IntKind.wrap .i64 (v4 + 1))) else none)
  else some v3
theorem ok_ref08_Texts_l2 (R_ref08_Texts : S_api_Node → Option ((List (List UInt8)))) (hR_ref08_Texts : ∀ (a0 : S_api_Node) (r : (List (List UInt8))), R_ref08_Texts a0 = some r → CallsX Try.prog 8 [.agg [.val (.int .i64 a0.f_Kind), .str a0.f_Text, .recs (α := List UInt8) [] E_string a0.f_Keys, .tree (α := S_api_Node) (S_api_Node.mk 0 [] [] []) pre_S_api_Node kids_S_api_Node a0.f_Kids]] (.recs (α := List UInt8) [] E_string r)) (n : Nat) (b1 : S_api_Node) {F0 : Fz} {w0 : Pt Try.prog} {Q : Exit → Act → World → Prop} (k : Nat) : ∀ (v3 : List (List UInt8)) (v4 : Int) (o : (List (List UInt8))), ref08_Texts_l2 R_ref08_Texts n b1 k v3 v4 = some o → To 43 F0 w0 [(3, .row 1003)] [(1003, 9, [.rowc false (α := List UInt8) [] E_string o])] (.exit 0) Q → WL Try.prog 43 F0 w0 [(1, .own 1 0), (3, .row 1003), (4, .val (.int .i64 v4))] [(1, 25, [.val (.int .i64 b1.f_Kind), .str b1.f_Text, .recs (α := List UInt8) [] E_string b1.f_Keys, .tree (α := S_api_Node) (S_api_Node.mk 0 [] [] []) pre_S_api_Node kids_S_api_Node b1.f_Kids]), (1003, 9, [.rowc false (α := List UInt8) [] E_string v3])] (cI (cI (cB (cA (cB (cB (cB (cF Try.f8)))))))) Q := by
  induction k with
  | zero => intro v3 v4 o h; cases h
  | succ k ih =>
    intro v3 v4 o h hQ
    rw [ref08_Texts_l2] at h
    refine WL.round ?_
    refine Wp.seq ?_
    refine Wp.seq ?_
    refine Wp.region hΓ [] [] [] [1, 3, 4, 20] [1, 1003] (K' := [(1, .own 1 0), (3, .row 1003), (4, .val (.int .i64 v4)), (20, .val (.bool (decide (v4 < (List.length b1.f_Kids : Int)))))]) (L' := [(1, 25, [.val (.int .i64 b1.f_Kind), .str b1.f_Text, .recs (α := List UInt8) [] E_string b1.f_Keys, .tree (α := S_api_Node) (S_api_Node.mk 0 [] [] []) pre_S_api_Node kids_S_api_Node b1.f_Kids]), (1003, 9, [.rowc false (α := List UInt8) [] E_string v3])]) (ob := []) (by kernel_rfl) AllP.nil ?_
    refine To.thenN ?_
    refine Wp.cond (b := (decide (v4 < (List.length b1.f_Kids : Int)))) (by kernel_rfl) (fun hb => ?_) (fun hb => ?_)
    · replace h := if_t hb h
      refine Wp.skip ?_
      refine To.thenN ?_
      refine Wp.seq ?_
      refine Wp.block ?_
      refine Wp.seq ?_
      obtain ⟨hc4, h⟩ := chk_of h
      obtain ⟨r2, hr2, h⟩ := bind_of h
      refine Wp.region hΓ [] [(5, .recs (α := List UInt8) [] E_string r2)] [] [1, 3, 4, 5] [1, 1003] (K' := [(1, .own 1 0), (3, .row 1003), (4, .val (.int .i64 v4)), (5, .recs (α := List UInt8) [] E_string r2)]) (L' := [(1, 25, [.val (.int .i64 b1.f_Kind), .str b1.f_Text, .recs (α := List UInt8) [] E_string b1.f_Keys, .tree (α := S_api_Node) (S_api_Node.mk 0 [] [] []) pre_S_api_Node kids_S_api_Node b1.f_Kids]), (1003, 9, [.rowc false (α := List UInt8) [] E_string v3])]) (ob := [(decide (0 ≤ v4 ∧ v4 < (List.length b1.f_Kids : Int))) = true, (true = true → CX Try.prog 8 [.agg [.val (.int .i64 (((b1.f_Kids)[Int.toNat v4]?.getD (S_api_Node.mk 0 [] [] [])).f_Kind)), .str (((b1.f_Kids)[Int.toNat v4]?.getD (S_api_Node.mk 0 [] [] [])).f_Text), .recs (α := List UInt8) [] E_string (((b1.f_Kids)[Int.toNat v4]?.getD (S_api_Node.mk 0 [] [] [])).f_Keys), .tree (α := S_api_Node) (S_api_Node.mk 0 [] [] []) pre_S_api_Node kids_S_api_Node (((b1.f_Kids)[Int.toNat v4]?.getD (S_api_Node.mk 0 [] [] [])).f_Kids)]] (.recs (α := List UInt8) [] E_string r2))]) (by kernel_rfl) (AllP.cons hc4 (AllP.cons (fun _ => cx (hR_ref08_Texts (S_api_Node.mk (((b1.f_Kids)[Int.toNat v4]?.getD (S_api_Node.mk 0 [] [] [])).f_Kind) (((b1.f_Kids)[Int.toNat v4]?.getD (S_api_Node.mk 0 [] [] [])).f_Text) (((b1.f_Kids)[Int.toNat v4]?.getD (S_api_Node.mk 0 [] [] [])).f_Keys) (((b1.f_Kids)[Int.toNat v4]?.getD (S_api_Node.mk 0 [] [] [])).f_Kids)) _ hr2)) AllP.nil)) ?_
      refine To.thenN ?_
      refine Wp.seq ?_
      refine Wp.region hΓ [] [] [] [1, 3, 4, 5, 6] [1, 1003] (K' := [(1, .own 1 0), (3, .row 1003), (4, .val (.int .i64 v4)), (5, .recs (α := List UInt8) [] E_string r2), (6, .val (.int .i64 0))]) (L' := [(1, 25, [.val (.int .i64 b1.f_Kind), .str b1.f_Text, .recs (α := List UInt8) [] E_string b1.f_Keys, .tree (α := S_api_Node) (S_api_Node.mk 0 [] [] []) pre_S_api_Node kids_S_api_Node b1.f_Kids]), (1003, 9, [.rowc false (α := List UInt8) [] E_string v3])]) (ob := []) (by kernel_rfl) AllP.nil ?_
      refine To.thenN ?_
      refine Wp.block ?_
      obtain ⟨o3, ho3, h⟩ := bind_of h
      refine Wp.keep (kk := [1, 3, 4, 5, 6]) (kl := [1, 1003]) (K' := [(1, .own 1 0), (3, .row 1003), (4, .val (.int .i64 v4)), (5, .recs (α := List UInt8) [] E_string r2), (6, .val (.int .i64 0))]) (L' := [(1, 25, [.val (.int .i64 b1.f_Kind), .str b1.f_Text, .recs (α := List UInt8) [] E_string b1.f_Keys, .tree (α := S_api_Node) (S_api_Node.mk 0 [] [] []) pre_S_api_Node kids_S_api_Node b1.f_Kids]), (1003, 9, [.rowc false (α := List UInt8) [] E_string v3])]) (by kernel_rfl) (by kernel_rfl) ?_
      refine Wp.loopL ?_
      refine ok_ref08_Texts_l3 R_ref08_Texts hR_ref08_Texts n v4 r2 b1 n v3 0 o3 ho3 ?_
      refine To.blockX ?_
      refine To.blockN ?_
      refine To.thenN ?_
      refine Wp.region hΓ [] [] [] [1, 3, 4] [1, 1003] (K' := [(1, .own 1 0), (3, .row 1003), (4, .val (.int .i64 (IntKind.wrap .i64 (v4 + 1))))]) (L' := [(1, 25, [.val (.int .i64 b1.f_Kind), .str b1.f_Text, .recs (α := List UInt8) [] E_string b1.f_Keys, .tree (α := S_api_Node) (S_api_Node.mk 0 [] [] []) pre_S_api_Node kids_S_api_Node b1.f_Kids]), (1003, 9, [.rowc false (α := List UInt8) [] E_string o3])]) (ob := []) (by kernel_rfl) AllP.nil ?_
      refine To.keep (kk := [1, 3, 4]) (kl := [1, 1003]) (K' := [(1, .own 1 0), (3, .row 1003), (4, .val (.int .i64 (IntKind.wrap .i64 (v4 + 1))))]) (L' := [(1, 25, [.val (.int .i64 b1.f_Kind), .str b1.f_Text, .recs (α := List UInt8) [] E_string b1.f_Keys, .tree (α := S_api_Node) (S_api_Node.mk 0 [] [] []) pre_S_api_Node kids_S_api_Node b1.f_Kids]), (1003, 9, [.rowc false (α := List UInt8) [] E_string o3])]) (by kernel_rfl) (by kernel_rfl) ?_
      refine To.again ?_
      exact ih o3 (IntKind.wrap .i64 (v4 + 1)) _ h hQ
    · replace h := if_f hb h
      refine Wp.exit ?_
      refine To.thenX ?_
      refine To.thenX ?_
      refine To.keep (kk := [3]) (kl := [1003]) (K' := [(3, .row 1003)]) (L' := [(1003, 9, [.rowc false (α := List UInt8) [] E_string v3])]) (by kernel_rfl) (by kernel_rfl) ?_
      cases h
      exact hQ
def ref08_Texts_b (R_ref08_Texts : S_api_Node → Option ((List (List UInt8)))) (n : Nat) (a0 : S_api_Node) : Option ((List (List UInt8))) :=
  (ref08_Texts_j1 R_ref08_Texts n ([] : List (List UInt8)) (a0.f_Kind == 1) a0).bind fun o1 =>
  (ref08_Texts_l2 R_ref08_Texts n a0 n o1 0).bind fun o2 =>
  some o2
theorem ok_ref08_Texts_b (R_ref08_Texts : S_api_Node → Option ((List (List UInt8)))) (hR_ref08_Texts : ∀ (a0 : S_api_Node) (r : (List (List UInt8))), R_ref08_Texts a0 = some r → CallsX Try.prog 8 [.agg [.val (.int .i64 a0.f_Kind), .str a0.f_Text, .recs (α := List UInt8) [] E_string a0.f_Keys, .tree (α := S_api_Node) (S_api_Node.mk 0 [] [] []) pre_S_api_Node kids_S_api_Node a0.f_Kids]] (.recs (α := List UInt8) [] E_string r)) (n : Nat) (a0 : S_api_Node) (r : (List (List UInt8))) (h : ref08_Texts_b R_ref08_Texts n a0 = some r) : CallsX Try.prog 8 [.agg [.val (.int .i64 a0.f_Kind), .str a0.f_Text, .recs (α := List UInt8) [] E_string a0.f_Keys, .tree (α := S_api_Node) (S_api_Node.mk 0 [] [] []) pre_S_api_Node kids_S_api_Node a0.f_Kids]] (.recs (α := List UInt8) [] E_string r) := by
  unfold ref08_Texts_b at h
  refine callsX_of (fn := Try.f8) (by kernel_rfl) rfl (by kernel_rfl) (Nat.le_of_ble_eq_true (by kernel_rfl)) fun F0 w0 _ => ?_
  refine Wp.keep (kk := [0]) (kl := []) (K' := [(0, .agg [.val (.int .i64 a0.f_Kind), .str a0.f_Text, .recs (α := List UInt8) [] E_string a0.f_Keys, .tree (α := S_api_Node) (S_api_Node.mk 0 [] [] []) pre_S_api_Node kids_S_api_Node a0.f_Kids])]) (L' := []) (by kernel_rfl) (by kernel_rfl) ?_
  refine Wp.seq ?_
  refine Wp.region hΓ [] [] [] [1] [1] (K' := [(1, .own 1 0)]) (L' := [(1, 25, [.val (.int .i64 a0.f_Kind), .str a0.f_Text, .recs (α := List UInt8) [] E_string a0.f_Keys, .tree (α := S_api_Node) (S_api_Node.mk 0 [] [] []) pre_S_api_Node kids_S_api_Node a0.f_Kids])]) (ob := []) (by kernel_rfl) AllP.nil ?_
  refine To.thenN ?_
  refine Wp.seq ?_
  refine Wp.region hΓ [] [(0, .recs (α := List UInt8) [] E_string [])] [] [1, 3] [1, 7] (K' := [(1, .own 1 0), (3, .row 7)]) (L' := [(1, 25, [.val (.int .i64 a0.f_Kind), .str a0.f_Text, .recs (α := List UInt8) [] E_string a0.f_Keys, .tree (α := S_api_Node) (S_api_Node.mk 0 [] [] []) pre_S_api_Node kids_S_api_Node a0.f_Kids]), (7, 9, [.rowc false (α := List UInt8) [] E_string []])]) (ob := [(MkOb 1 [] 0 (.recs (α := List UInt8) [] E_string []) ∧ GoodR (.recs (α := List UInt8) [] E_string []))]) (by kernel_rfl) (AllP.cons (mkOb (by kernel_rfl) rfl (by kernel_rfl) (good_E_string _)) AllP.nil) ?_
  refine To.thenN ?_
  refine Wp.seq ?_
  refine Wp.seq ?_
  refine Wp.region hΓ [] [] [] [1, 3, 10] [1, 7] (K' := [(1, .own 1 0), (3, .row 7), (10, .val (.bool (a0.f_Kind == 1)))]) (L' := [(1, 25, [.val (.int .i64 a0.f_Kind), .str a0.f_Text, .recs (α := List UInt8) [] E_string a0.f_Keys, .tree (α := S_api_Node) (S_api_Node.mk 0 [] [] []) pre_S_api_Node kids_S_api_Node a0.f_Kids]), (7, 9, [.rowc false (α := List UInt8) [] E_string []])]) (ob := []) (by kernel_rfl) AllP.nil ?_
  refine To.thenN ?_
  obtain ⟨o1, ho1, h⟩ := bind_of h
  refine Wp.keep (kk := [1, 3, 10]) (kl := [1, 7]) (K' := [(1, .own 1 0), (3, .row 7), (10, .val (.bool (a0.f_Kind == 1)))]) (L' := [(1, 25, [.val (.int .i64 a0.f_Kind), .str a0.f_Text, .recs (α := List UInt8) [] E_string a0.f_Keys, .tree (α := S_api_Node) (S_api_Node.mk 0 [] [] []) pre_S_api_Node kids_S_api_Node a0.f_Kids]), (7, 9, [.rowc false (α := List UInt8) [] E_string []])]) (by kernel_rfl) (by kernel_rfl) ?_
  refine Wp.pre (St.rename 7 1003 (by decide) (K' := [(1, .own 1 0), (3, .row 1003), (10, .val (.bool (a0.f_Kind == 1)))]) (L' := [(1, 25, [.val (.int .i64 a0.f_Kind), .str a0.f_Text, .recs (α := List UInt8) [] E_string a0.f_Keys, .tree (α := S_api_Node) (S_api_Node.mk 0 [] [] []) pre_S_api_Node kids_S_api_Node a0.f_Kids]), (1003, 9, [.rowc false (α := List UInt8) [] E_string []])]) (by kernel_rfl) (by kernel_rfl) (by kernel_rfl)) ?_
  refine Wp.keep (kk := [1, 3, 10]) (kl := [1, 1003]) (K' := [(1, .own 1 0), (3, .row 1003), (10, .val (.bool (a0.f_Kind == 1)))]) (L' := [(1, 25, [.val (.int .i64 a0.f_Kind), .str a0.f_Text, .recs (α := List UInt8) [] E_string a0.f_Keys, .tree (α := S_api_Node) (S_api_Node.mk 0 [] [] []) pre_S_api_Node kids_S_api_Node a0.f_Kids]), (1003, 9, [.rowc false (α := List UInt8) [] E_string []])]) (by kernel_rfl) (by kernel_rfl) ?_
  refine ok_ref08_Texts_j1 R_ref08_Texts hR_ref08_Texts n ([] : List (List UInt8)) (a0.f_Kind == 1) a0 o1 ho1 ?_
  refine To.thenN ?_
  refine Wp.seq ?_
  refine Wp.seq ?_
  refine Wp.region hΓ [] [] [] [1, 3, 4] [1, 1003] (K' := [(1, .own 1 0), (3, .row 1003), (4, .val (.int .i64 0))]) (L' := [(1, 25, [.val (.int .i64 a0.f_Kind), .str a0.f_Text, .recs (α := List UInt8) [] E_string a0.f_Keys, .tree (α := S_api_Node) (S_api_Node.mk 0 [] [] []) pre_S_api_Node kids_S_api_Node a0.f_Kids]), (1003, 9, [.rowc false (α := List UInt8) [] E_string o1])]) (ob := []) (by kernel_rfl) AllP.nil ?_
  refine To.thenN ?_
  refine Wp.block ?_
  obtain ⟨o2, ho2, h⟩ := bind_of h
  refine Wp.keep (kk := [1, 3, 4]) (kl := [1, 1003]) (K' := [(1, .own 1 0), (3, .row 1003), (4, .val (.int .i64 0))]) (L' := [(1, 25, [.val (.int .i64 a0.f_Kind), .str a0.f_Text, .recs (α := List UInt8) [] E_string a0.f_Keys, .tree (α := S_api_Node) (S_api_Node.mk 0 [] [] []) pre_S_api_Node kids_S_api_Node a0.f_Kids]), (1003, 9, [.rowc false (α := List UInt8) [] E_string o1])]) (by kernel_rfl) (by kernel_rfl) ?_
  refine Wp.loopL ?_
  refine ok_ref08_Texts_l2 R_ref08_Texts hR_ref08_Texts n a0 n o1 0 o2 ho2 ?_
  refine To.blockX ?_
  refine To.thenN ?_
  refine Wp.seq ?_
  refine Wp.region hΓ [] [] [] [2] [1003] (K' := [(2, .row 1003)]) (L' := [(1003, 9, [.rowc false (α := List UInt8) [] E_string o2])]) (ob := []) (by kernel_rfl) AllP.nil ?_
  refine To.thenN ?_
  refine Wp.ret ?_
  refine To.keep (kk := [2]) (kl := [1003]) (K' := [(2, .row 1003)]) (L' := [(1003, 9, [.rowc false (α := List UInt8) [] E_string o2])]) (by kernel_rfl) (by kernel_rfl) ?_
  refine To.pre (St.settle (ks := [1003]) (kk := [2]) (kl := [1003]) (K' := [(2, .row 1003)]) (L' := [(1003, 9, [.rowc true (α := List UInt8) [] E_string o2])]) (by kernel_rfl)) ?_
  refine To.pre (St.sealK [2] (K' := [(2, .recs (α := List UInt8) [] E_string o2)]) (by kernel_rfl)) ?_
  refine To.keep (kk := [2]) (kl := []) (K' := [(2, .recs (α := List UInt8) [] E_string o2)]) (L' := []) (by kernel_rfl) (by kernel_rfl) ?_
  cases h
  exact To.done hΓ (by kernel_rfl)
def ref08_Texts : Nat → S_api_Node → Option ((List (List UInt8)))
  | 0 => fun _ => none
  | n + 1 => ref08_Texts_b (ref08_Texts n) n
theorem ok_ref08_Texts (n : Nat) : ∀ (a0 : S_api_Node) (r : (List (List UInt8))), ref08_Texts n a0 = some r → CallsX Try.prog 8 [.agg [.val (.int .i64 a0.f_Kind), .str a0.f_Text, .recs (α := List UInt8) [] E_string a0.f_Keys, .tree (α := S_api_Node) (S_api_Node.mk 0 [] [] []) pre_S_api_Node kids_S_api_Node a0.f_Kids]] (.recs (α := List UInt8) [] E_string r) := by
  induction n with
  | zero => intro a0 r h; cases h
  | succ n ih => exact fun a0 r h => ok_ref08_Texts_b (ref08_Texts n) ih n a0 r h
def law08_NodeEach_1__o0__e__e__e (n : Nat) (a0 : List UInt8) (c0 : List (List UInt8)) (c1 : List UInt8) (c2 : List UInt8) (h0 : Int) : Option ((List UInt8) × Int × Int) :=
  if ((!((decide ((IntKind.wrap .i64 (h0 + 1)) > (List.length c0 : Int))) == false) || decide (0 ≤ (IntKind.wrap .i64 ((IntKind.wrap .i64 (h0 + 1)) - 1)) ∧ (IntKind.wrap .i64 ((IntKind.wrap .i64 (h0 + 1)) - 1)) < (List.length c0 : Int)))) = true then (lett ((bif (bif (decide ((IntKind.wrap .i64 (h0 + 1)) > (List.length c0 : Int))) then true else (!(((c0)[Int.toNat (IntKind.wrap .i64 ((IntKind.wrap .i64 (h0 + 1)) - 1))]?.getD []) == a0))) then true else (a0 == c1)) : Bool) fun x1 =>
  if x1 = true then (some (a0, 4, (IntKind.wrap .i64 (h0 + 1))))
  else (if (decide (((List.length a0 + List.length c2 : Nat) : Int) ≤ 9223372036854775807)) = true then (some ((a0 ++ c2), 0, (IntKind.wrap .i64 (h0 + 1)))) else none)) else none
theorem ok_law08_NodeEach_1__o0__e__e__e (n : Nat) (a0 : List UInt8) (c0 : List (List UInt8)) (c1 : List UInt8) (c2 : List UInt8) (h0 : Int) (r : (List UInt8) × Int × Int) (h : law08_NodeEach_1__o0__e__e__e n a0 c0 c1 c2 h0 = some r) : CallsB Try.prog 10 [.str a0, .own 1000000 0, .el [.recs (α := List UInt8) [] E_string c0], .el [.str c1], .el [.str c2]] [(1000000, 3, [.val (.int .i64 h0)])] (.tup [.str r.1, .val (.int .i64 r.2.1)]) [(1000000, 3, [.val (.int .i64 r.2.2)])] := by
  unfold law08_NodeEach_1__o0__e__e__e at h
  refine callsB_of (fn := Try.f10) (by kernel_rfl) rfl (by kernel_rfl) (Nat.le_of_ble_eq_true (by kernel_rfl)) fun F0 w0 => ?_
  refine Wp.keep (kk := [0, 1, 2, 3, 4]) (kl := [1000000]) (K' := [(0, .str a0), (1, .own 1000000 0), (2, .el [.recs (α := List UInt8) [] E_string c0]), (3, .el [.str c1]), (4, .el [.str c2])]) (L' := [(1000000, 3, [.val (.int .i64 h0)])]) (by kernel_rfl) (by kernel_rfl) ?_
  refine Wp.seq ?_
  refine Wp.region hΓ [] [] [] [0, 1, 2, 3, 4] [1000000] (K' := [(0, .str a0), (1, .own 1000000 0), (2, .el [.recs (α := List UInt8) [] E_string c0]), (3, .el [.str c1]), (4, .el [.str c2])]) (L' := [(1000000, 3, [.val (.int .i64 h0)])]) (ob := []) (by kernel_rfl) AllP.nil ?_
  refine To.thenN ?_
  refine Wp.seq ?_
  refine Wp.region hΓ [] [] [] [0, 1, 2, 3, 4] [1000000] (K' := [(0, .str a0), (1, .own 1000000 0), (2, .el [.recs (α := List UInt8) [] E_string c0]), (3, .el [.str c1]), (4, .el [.str c2])]) (L' := [(1000000, 3, [.val (.int .i64 (IntKind.wrap .i64 (h0 + 1)))])]) (ob := []) (by kernel_rfl) AllP.nil ?_
  refine To.thenN ?_
  refine Wp.seq ?_
  refine Wp.seq ?_
  obtain ⟨hc3, h⟩ := chk_of h
  obtain ⟨x1, hx1, h⟩ := lett_of h
  refine Wp.region hΓ [] [] [] [0, 4, 27] [1000000] (K' := [(0, .str a0), (4, .el [.str c2]), (27, .val (.bool (bif (bif (decide ((IntKind.wrap .i64 (h0 + 1)) > (List.length c0 : Int))) then true else (!(((c0)[Int.toNat (IntKind.wrap .i64 ((IntKind.wrap .i64 (h0 + 1)) - 1))]?.getD []) == a0))) then true else (a0 == c1))))]) (L' := [(1000000, 3, [.val (.int .i64 (IntKind.wrap .i64 (h0 + 1)))])]) (ob := [(!((decide ((IntKind.wrap .i64 (h0 + 1)) > (List.length c0 : Int))) == false) || decide (0 ≤ (IntKind.wrap .i64 ((IntKind.wrap .i64 (h0 + 1)) - 1)) ∧ (IntKind.wrap .i64 ((IntKind.wrap .i64 (h0 + 1)) - 1)) < (List.length c0 : Int))) = true]) (by kernel_rfl) (AllP.cons hc3 AllP.nil) ?_
  refine To.eq (K' := [(0, .str a0), (4, .el [.str c2]), (27, .val (.bool x1))]) (L' := [(1000000, 3, [.val (.int .i64 (IntKind.wrap .i64 (h0 + 1)))])]) (by cases hx1; rfl) (by cases hx1; rfl) ?_
  refine To.thenN ?_
  refine Wp.cond (b := x1) (by kernel_rfl) (fun hb => ?_) (fun hb => ?_)
  · replace h := if_t hb h
    refine Wp.seq ?_
    refine Wp.region hΓ [] [] [] [6, 7] [1000000] (K' := [(6, .str a0), (7, .val (.int .i64 4))]) (L' := [(1000000, 3, [.val (.int .i64 (IntKind.wrap .i64 (h0 + 1)))])]) (ob := []) (by kernel_rfl) AllP.nil ?_
    refine To.thenN ?_
    refine Wp.ret ?_
    refine To.thenR ?_
    refine To.keep (kk := [6, 7]) (kl := [1000000]) (K' := [(6, .str a0), (7, .val (.int .i64 4))]) (L' := [(1000000, 3, [.val (.int .i64 (IntKind.wrap .i64 (h0 + 1)))])]) (by kernel_rfl) (by kernel_rfl) ?_
    cases h
    exact To.doneB hΓ [1000000] (by kernel_rfl) (by kernel_rfl)
  · replace h := if_f hb h
    refine Wp.skip ?_
    refine To.thenN ?_
    refine Wp.seq ?_
    obtain ⟨hc2, h⟩ := chk_of h
    refine Wp.region hΓ [] [] [] [6, 7] [1000000] (K' := [(6, .str (a0 ++ c2)), (7, .val (.int .i64 0))]) (L' := [(1000000, 3, [.val (.int .i64 (IntKind.wrap .i64 (h0 + 1)))])]) (ob := [(decide (((List.length a0 + List.length c2 : Nat) : Int) ≤ 9223372036854775807)) = true]) (by kernel_rfl) (AllP.cons hc2 AllP.nil) ?_
    refine To.thenN ?_
    refine Wp.ret ?_
    refine To.keep (kk := [6, 7]) (kl := [1000000]) (K' := [(6, .str (a0 ++ c2)), (7, .val (.int .i64 0))]) (L' := [(1000000, 3, [.val (.int .i64 (IntKind.wrap .i64 (h0 + 1)))])]) (by kernel_rfl) (by kernel_rfl) ?_
    cases h
    exact To.doneB hΓ [1000000] (by kernel_rfl) (by kernel_rfl)
def node_Each__law08_NodeEach_1_o0_e_e_e_l1 (R_node_Each__law08_NodeEach_1_o0_e_e_e : S_api_Node → (List (List UInt8)) → (List UInt8) → (List UInt8) → Int → Option (S_api_Node × Int × Int)) (n : Nat) (v1_1 : List (List UInt8)) (v1_2 : List UInt8) (v1_3 : List UInt8) (v37 : List (S_api_Node)) (v38 : Int) : Nat → Int → S_api_Node → S_api_Node → Int → Option (Sum (S_api_Node × S_api_Node × Int) (Int × S_api_Node × Int))
  | 0, _, _, _, _ => none
  | k + 1, v39, b4, b8, b1000000 => if (decide (v39 < v38)) = true then (if (decide (0 ≤ v39 ∧ v39 < (List.length v37 : Int))) = true then ((R_node_Each__law08_NodeEach_1_o0_e_e_e (S_api_Node.mk (((v37)[Int.toNat v39]?.getD (S_api_Node.mk 0 [] [] [])).f_Kind) (((v37)[Int.toNat v39]?.getD (S_api_Node.mk 0 [] [] [])).f_Text) (((v37)[Int.toNat v39]?.getD (S_api_Node.mk 0 [] [] [])).f_Keys) (((v37)[Int.toNat v39]?.getD (S_api_Node.mk 0 [] [] [])).f_Kids)) v1_1 v1_2 v1_3 b1000000).bind fun r3 =>
  if (r3.2.1 != 0) = true then (some (.inr (r3.2.1, (S_api_Node.mk 0 [] [] []), r3.2.2)))
  else (if (decide ((List.length b8.f_Kids + List.length ([r3.1] : List (S_api_Node))) * (72 + 1) ≤ limit)) = true then (node_Each__law08_NodeEach_1_o0_e_e_e_l1 R_node_Each__law08_NodeEach_1_o0_e_e_e n v1_1 v1_2 v1_3 v37 v38 k (IntKind.wrap .i64 (v39 + 1)) b4 (S_api_Node.mk b8.f_Kind b8.f_Text b8.f_Keys (b8.f_Kids ++ ([r3.1] : List (S_api_Node)))) r3.2.2) else none)) else none)
  else (some (.inl (b4, b8, b1000000)))
theorem ok_node_Each__law08_NodeEach_1_o0_e_e_e_l1 (R_node_Each__law08_NodeEach_1_o0_e_e_e : S_api_Node → (List (List UInt8)) → (List UInt8) → (List UInt8) → Int → Option (S_api_Node × Int × Int)) (hR_node_Each__law08_NodeEach_1_o0_e_e_e : ∀ (a0 : S_api_Node) (c0 : List (List UInt8)) (c1 : List UInt8) (c2 : List UInt8) (h0 : Int) (r : S_api_Node × Int × Int), R_node_Each__law08_NodeEach_1_o0_e_e_e a0 c0 c1 c2 h0 = some r → CallsB Try.prog 9 [.agg [.val (.int .i64 a0.f_Kind), .str a0.f_Text, .recs (α := List UInt8) [] E_string a0.f_Keys, .tree (α := S_api_Node) (S_api_Node.mk 0 [] [] []) pre_S_api_Node kids_S_api_Node a0.f_Kids], .fn 10 [.own 1000000 0, .el [.recs (α := List UInt8) [] E_string c0], .el [.str c1], .el [.str c2]]] [(1000000, 3, [.val (.int .i64 h0)])] (.tup [.agg [.val (.int .i64 r.1.f_Kind), .str r.1.f_Text, .recs (α := List UInt8) [] E_string r.1.f_Keys, .tree (α := S_api_Node) (S_api_Node.mk 0 [] [] []) pre_S_api_Node kids_S_api_Node r.1.f_Kids], .val (.int .i64 r.2.1)]) [(1000000, 3, [.val (.int .i64 r.2.2)])]) (n : Nat) (v1_1 : List (List UInt8)) (v1_2 : List UInt8) (v1_3 : List UInt8) (v37 : List (S_api_Node)) (v38 : Int) {F0 : Fz} {w0 : Pt Try.prog} {Q : Exit → Act → World → Prop} (k : Nat) : ∀ (v39 : Int) (b4 : S_api_Node) (b8 : S_api_Node) (b1000000 : Int) (o : Sum (S_api_Node × S_api_Node × Int) (Int × S_api_Node × Int)), node_Each__law08_NodeEach_1_o0_e_e_e_l1 R_node_Each__law08_NodeEach_1_o0_e_e_e n v1_1 v1_2 v1_3 v37 v38 k v39 b4 b8 b1000000 = some o → (Sum.elim (fun s => To 61 F0 w0 [(4, .own 4 0), (8, .own 8 0)] [(4, 25, [.val (.int .i64 s.1.f_Kind), .str s.1.f_Text, .recs (α := List UInt8) [] E_string s.1.f_Keys, .tree (α := S_api_Node) (S_api_Node.mk 0 [] [] []) pre_S_api_Node kids_S_api_Node s.1.f_Kids]), (8, 25, [.val (.int .i64 s.2.1.f_Kind), .str s.2.1.f_Text, .recs (α := List UInt8) [] E_string s.2.1.f_Keys, .row 4483]), (4483, 25, [.rowc false (α := S_api_Node) (S_api_Node.mk 0 [] [] []) E_api_Node s.2.1.f_Kids]), (1000000, 3, [.val (.int .i64 s.2.2)])] (.exit 0) Q) (fun s => To 61 F0 w0 [(4, .own 4 0), (5, .val (.int .i64 s.1))] [(4, 25, [.val (.int .i64 s.2.1.f_Kind), .str s.2.1.f_Text, .recs (α := List UInt8) [] E_string s.2.1.f_Keys, .tree (α := S_api_Node) (S_api_Node.mk 0 [] [] []) pre_S_api_Node kids_S_api_Node s.2.1.f_Kids]), (1000000, 3, [.val (.int .i64 s.2.2)])] .ret Q)) o → WL Try.prog 61 F0 w0 [(1, .fn 10 [.own 1000000 0, .el [.recs (α := List UInt8) [] E_string v1_1], .el [.str v1_2], .el [.str v1_3]]), (4, .own 4 0), (8, .own 8 0), (37, .recs (α := S_api_Node) (S_api_Node.mk 0 [] [] []) E_api_Node v37), (38, .val (.int .i64 v38)), (39, .val (.int .i64 v39))] [(4, 25, [.val (.int .i64 b4.f_Kind), .str b4.f_Text, .recs (α := List UInt8) [] E_string b4.f_Keys, .tree (α := S_api_Node) (S_api_Node.mk 0 [] [] []) pre_S_api_Node kids_S_api_Node b4.f_Kids]), (8, 25, [.val (.int .i64 b8.f_Kind), .str b8.f_Text, .recs (α := List UInt8) [] E_string b8.f_Keys, .row 4483]), (4483, 25, [.rowc false (α := S_api_Node) (S_api_Node.mk 0 [] [] []) E_api_Node b8.f_Kids]), (1000000, 3, [.val (.int .i64 b1000000)])] (cI (cI (cB (cA (cB (cB (cB (cF Try.f9)))))))) Q := by
  induction k with
  | zero => intro v39 b4 b8 b1000000 o h; cases h
  | succ k ih =>
    intro v39 b4 b8 b1000000 o h hQ
    rw [node_Each__law08_NodeEach_1_o0_e_e_e_l1] at h
    refine WL.round ?_
    refine Wp.seq ?_
    refine Wp.region hΓ [] [] [] [1, 4, 8, 37, 38, 39, 40] [4, 8, 4483, 1000000] (K' := [(1, .fn 10 [.own 1000000 0, .el [.recs (α := List UInt8) [] E_string v1_1], .el [.str v1_2], .el [.str v1_3]]), (4, .own 4 0), (8, .own 8 0), (37, .recs (α := S_api_Node) (S_api_Node.mk 0 [] [] []) E_api_Node v37), (38, .val (.int .i64 v38)), (39, .val (.int .i64 v39)), (40, .val (.bool (decide (v39 < v38))))]) (L' := [(4, 25, [.val (.int .i64 b4.f_Kind), .str b4.f_Text, .recs (α := List UInt8) [] E_string b4.f_Keys, .tree (α := S_api_Node) (S_api_Node.mk 0 [] [] []) pre_S_api_Node kids_S_api_Node b4.f_Kids]), (8, 25, [.val (.int .i64 b8.f_Kind), .str b8.f_Text, .recs (α := List UInt8) [] E_string b8.f_Keys, .row 4483]), (4483, 25, [.rowc false (α := S_api_Node) (S_api_Node.mk 0 [] [] []) E_api_Node b8.f_Kids]), (1000000, 3, [.val (.int .i64 b1000000)])]) (ob := []) (by kernel_rfl) AllP.nil ?_
    refine To.thenN ?_
    refine Wp.seq ?_
    refine Wp.cond (b := (decide (v39 < v38))) (by kernel_rfl) (fun hb => ?_) (fun hb => ?_)
    · replace h := if_t hb h
      refine Wp.skip ?_
      refine To.thenN ?_
      refine Wp.seq ?_
      refine Wp.block ?_
      refine Wp.seq ?_
      obtain ⟨hc5, h⟩ := chk_of h
      refine Wp.region hΓ [] [] [] [1, 4, 8, 10, 37, 38, 39] [4, 8, 10, 4483, 1000000] (K' := [(1, .fn 10 [.own 1000000 0, .el [.recs (α := List UInt8) [] E_string v1_1], .el [.str v1_2], .el [.str v1_3]]), (4, .own 4 0), (8, .own 8 0), (10, .own 10 0), (37, .recs (α := S_api_Node) (S_api_Node.mk 0 [] [] []) E_api_Node v37), (38, .val (.int .i64 v38)), (39, .val (.int .i64 v39))]) (L' := [(4, 25, [.val (.int .i64 b4.f_Kind), .str b4.f_Text, .recs (α := List UInt8) [] E_string b4.f_Keys, .tree (α := S_api_Node) (S_api_Node.mk 0 [] [] []) pre_S_api_Node kids_S_api_Node b4.f_Kids]), (8, 25, [.val (.int .i64 b8.f_Kind), .str b8.f_Text, .recs (α := List UInt8) [] E_string b8.f_Keys, .row 4483]), (10, 25, [.val (.int .i64 (((v37)[Int.toNat v39]?.getD (S_api_Node.mk 0 [] [] [])).f_Kind)), .str (((v37)[Int.toNat v39]?.getD (S_api_Node.mk 0 [] [] [])).f_Text), .recs (α := List UInt8) [] E_string (((v37)[Int.toNat v39]?.getD (S_api_Node.mk 0 [] [] [])).f_Keys), .tree (α := S_api_Node) (S_api_Node.mk 0 [] [] []) pre_S_api_Node kids_S_api_Node (((v37)[Int.toNat v39]?.getD (S_api_Node.mk 0 [] [] [])).f_Kids)]), (4483, 25, [.rowc false (α := S_api_Node) (S_api_Node.mk 0 [] [] []) E_api_Node b8.f_Kids]), (1000000, 3, [.val (.int .i64 b1000000)])]) (ob := [(decide (0 ≤ v39 ∧ v39 < (List.length v37 : Int))) = true]) (by kernel_rfl) (AllP.cons hc5 AllP.nil) ?_
      refine To.thenN ?_
      refine Wp.seq ?_
      obtain ⟨r3, hr3, h⟩ := bind_of h
      refine Wp.region hΓ [] [] [(2, ⟨[(1000000, 1000000)], [(1000000, 1000000)], [.agg [.val (.int .i64 (((v37)[Int.toNat v39]?.getD (S_api_Node.mk 0 [] [] [])).f_Kind)), .str (((v37)[Int.toNat v39]?.getD (S_api_Node.mk 0 [] [] [])).f_Text), .recs (α := List UInt8) [] E_string (((v37)[Int.toNat v39]?.getD (S_api_Node.mk 0 [] [] [])).f_Keys), .tree (α := S_api_Node) (S_api_Node.mk 0 [] [] []) pre_S_api_Node kids_S_api_Node (((v37)[Int.toNat v39]?.getD (S_api_Node.mk 0 [] [] [])).f_Kids)], .fn 10 [.own 1000000 0, .el [.recs (α := List UInt8) [] E_string v1_1], .el [.str v1_2], .el [.str v1_3]]], [(1000000, 3, [.val (.int .i64 b1000000)])], .tup [.agg [.val (.int .i64 r3.1.f_Kind), .str r3.1.f_Text, .recs (α := List UInt8) [] E_string r3.1.f_Keys, .tree (α := S_api_Node) (S_api_Node.mk 0 [] [] []) pre_S_api_Node kids_S_api_Node r3.1.f_Kids], .val (.int .i64 r3.2.1)], [(1000000, 3, [.val (.int .i64 r3.2.2)])]⟩)] [1, 4, 8, 11, 12, 37, 38, 39] [4, 8, 11, 4483, 1000000] (K' := [(1, .fn 10 [.own 1000000 0, .el [.recs (α := List UInt8) [] E_string v1_1], .el [.str v1_2], .el [.str v1_3]]), (4, .own 4 0), (8, .own 8 0), (11, .own 11 0), (12, .val (.int .i64 r3.2.1)), (37, .recs (α := S_api_Node) (S_api_Node.mk 0 [] [] []) E_api_Node v37), (38, .val (.int .i64 v38)), (39, .val (.int .i64 v39))]) (L' := [(4, 25, [.val (.int .i64 b4.f_Kind), .str b4.f_Text, .recs (α := List UInt8) [] E_string b4.f_Keys, .tree (α := S_api_Node) (S_api_Node.mk 0 [] [] []) pre_S_api_Node kids_S_api_Node b4.f_Kids]), (8, 25, [.val (.int .i64 b8.f_Kind), .str b8.f_Text, .recs (α := List UInt8) [] E_string b8.f_Keys, .row 4483]), (11, 25, [.val (.int .i64 r3.1.f_Kind), .str r3.1.f_Text, .recs (α := List UInt8) [] E_string r3.1.f_Keys, .tree (α := S_api_Node) (S_api_Node.mk 0 [] [] []) pre_S_api_Node kids_S_api_Node r3.1.f_Kids]), (4483, 25, [.rowc false (α := S_api_Node) (S_api_Node.mk 0 [] [] []) E_api_Node b8.f_Kids]), (1000000, 3, [.val (.int .i64 r3.2.2)])]) (ob := [CbOb (CallsB Try.prog) 9 [.agg [.val (.int .i64 (((v37)[Int.toNat v39]?.getD (S_api_Node.mk 0 [] [] [])).f_Kind)), .str (((v37)[Int.toNat v39]?.getD (S_api_Node.mk 0 [] [] [])).f_Text), .recs (α := List UInt8) [] E_string (((v37)[Int.toNat v39]?.getD (S_api_Node.mk 0 [] [] [])).f_Keys), .tree (α := S_api_Node) (S_api_Node.mk 0 [] [] []) pre_S_api_Node kids_S_api_Node (((v37)[Int.toNat v39]?.getD (S_api_Node.mk 0 [] [] [])).f_Kids)], .fn 10 [.own 1000000 0, .el [.recs (α := List UInt8) [] E_string v1_1], .el [.str v1_2], .el [.str v1_3]]] [some (3, [.val (.int .i64 b1000000)])] ⟨[(1000000, 1000000)], [(1000000, 1000000)], [.agg [.val (.int .i64 (((v37)[Int.toNat v39]?.getD (S_api_Node.mk 0 [] [] [])).f_Kind)), .str (((v37)[Int.toNat v39]?.getD (S_api_Node.mk 0 [] [] [])).f_Text), .recs (α := List UInt8) [] E_string (((v37)[Int.toNat v39]?.getD (S_api_Node.mk 0 [] [] [])).f_Keys), .tree (α := S_api_Node) (S_api_Node.mk 0 [] [] []) pre_S_api_Node kids_S_api_Node (((v37)[Int.toNat v39]?.getD (S_api_Node.mk 0 [] [] [])).f_Kids)], .fn 10 [.own 1000000 0, .el [.recs (α := List UInt8) [] E_string v1_1], .el [.str v1_2], .el [.str v1_3]]], [(1000000, 3, [.val (.int .i64 b1000000)])], .tup [.agg [.val (.int .i64 r3.1.f_Kind), .str r3.1.f_Text, .recs (α := List UInt8) [] E_string r3.1.f_Keys, .tree (α := S_api_Node) (S_api_Node.mk 0 [] [] []) pre_S_api_Node kids_S_api_Node r3.1.f_Kids], .val (.int .i64 r3.2.1)], [(1000000, 3, [.val (.int .i64 r3.2.2)])]⟩]) (by kernel_rfl) (AllP.cons (⟨(hR_node_Each__law08_NodeEach_1_o0_e_e_e (S_api_Node.mk (((v37)[Int.toNat v39]?.getD (S_api_Node.mk 0 [] [] [])).f_Kind) (((v37)[Int.toNat v39]?.getD (S_api_Node.mk 0 [] [] [])).f_Text) (((v37)[Int.toNat v39]?.getD (S_api_Node.mk 0 [] [] [])).f_Keys) (((v37)[Int.toNat v39]?.getD (S_api_Node.mk 0 [] [] [])).f_Kids)) v1_1 v1_2 v1_3 b1000000 _ hr3), by kernel_rfl, by kernel_rfl⟩) AllP.nil) ?_
      refine To.thenN ?_
      refine Wp.seq ?_
      refine Wp.seq ?_
      refine Wp.region hΓ [] [] [] [1, 4, 8, 11, 12, 37, 38, 39, 50] [4, 8, 11, 4483, 1000000] (K' := [(1, .fn 10 [.own 1000000 0, .el [.recs (α := List UInt8) [] E_string v1_1], .el [.str v1_2], .el [.str v1_3]]), (4, .own 4 0), (8, .own 8 0), (11, .own 11 0), (12, .val (.int .i64 r3.2.1)), (37, .recs (α := S_api_Node) (S_api_Node.mk 0 [] [] []) E_api_Node v37), (38, .val (.int .i64 v38)), (39, .val (.int .i64 v39)), (50, .val (.bool (r3.2.1 != 0)))]) (L' := [(4, 25, [.val (.int .i64 b4.f_Kind), .str b4.f_Text, .recs (α := List UInt8) [] E_string b4.f_Keys, .tree (α := S_api_Node) (S_api_Node.mk 0 [] [] []) pre_S_api_Node kids_S_api_Node b4.f_Kids]), (8, 25, [.val (.int .i64 b8.f_Kind), .str b8.f_Text, .recs (α := List UInt8) [] E_string b8.f_Keys, .row 4483]), (11, 25, [.val (.int .i64 r3.1.f_Kind), .str r3.1.f_Text, .recs (α := List UInt8) [] E_string r3.1.f_Keys, .tree (α := S_api_Node) (S_api_Node.mk 0 [] [] []) pre_S_api_Node kids_S_api_Node r3.1.f_Kids]), (4483, 25, [.rowc false (α := S_api_Node) (S_api_Node.mk 0 [] [] []) E_api_Node b8.f_Kids]), (1000000, 3, [.val (.int .i64 r3.2.2)])]) (ob := []) (by kernel_rfl) AllP.nil ?_
      refine To.thenN ?_
      refine Wp.cond (b := (r3.2.1 != 0)) (by kernel_rfl) (fun hb => ?_) (fun hb => ?_)
      · replace h := if_t hb h
        refine Wp.seq ?_
        refine Wp.region hΓ [] [] [] [4, 5] [4, 1000000] (K' := [(4, .own 4 0), (5, .val (.int .i64 r3.2.1))]) (L' := [(4, 25, [.val (.int .i64 0), .str [], .val (.slice none 0 0), .val (.slice none 0 0)]), (1000000, 3, [.val (.int .i64 r3.2.2)])]) (ob := []) (by kernel_rfl) AllP.nil ?_
        refine To.thenN ?_
        refine Wp.ret ?_
        refine To.thenR ?_
        refine To.blockR ?_
        refine To.thenR ?_
        refine To.thenR ?_
        refine To.keep (kk := [4, 5]) (kl := [4, 1000000]) (K' := [(4, .own 4 0), (5, .val (.int .i64 r3.2.1))]) (L' := [(4, 25, [.val (.int .i64 0), .str [], .val (.slice none 0 0), .val (.slice none 0 0)]), (1000000, 3, [.val (.int .i64 r3.2.2)])]) (by kernel_rfl) (by kernel_rfl) ?_
        refine To.weak (K' := [(4, .own 4 0), (5, .val (.int .i64 r3.2.1))]) (L' := [(4, 25, [.val (.int .i64 0), .str [], .recs (α := List UInt8) [] E_string [], .tree (α := S_api_Node) (S_api_Node.mk 0 [] [] []) pre_S_api_Node kids_S_api_Node []]), (1000000, 3, [.val (.int .i64 r3.2.2)])]) (.cons (.refl _) (.cons (.refl _) .nil)) (.cons (.cons (.refl _) (.cons (.refl _) (.cons (.zero _ _) (.cons (.zeroT _ _ _) .nil)))) (.cons (.cons (.refl _) .nil) .nil)) ?_
        cases h
        exact hQ
      · replace h := if_f hb h
        refine Wp.skip ?_
        refine To.thenN ?_
        obtain ⟨hc4, h⟩ := chk_of h
        refine Wp.region hΓ [] [(3, .recs (α := S_api_Node) (S_api_Node.mk 0 [] [] []) E_api_Node [r3.1]), (4, .recs (α := S_api_Node) (S_api_Node.mk 0 [] [] []) E_api_Node (b8.f_Kids ++ ([r3.1] : List (S_api_Node))))] [] [1, 4, 8, 37, 38, 39] [4, 8, 57, 1000000] (K' := [(1, .fn 10 [.own 1000000 0, .el [.recs (α := List UInt8) [] E_string v1_1], .el [.str v1_2], .el [.str v1_3]]), (4, .own 4 0), (8, .own 8 0), (37, .recs (α := S_api_Node) (S_api_Node.mk 0 [] [] []) E_api_Node v37), (38, .val (.int .i64 v38)), (39, .val (.int .i64 v39))]) (L' := [(4, 25, [.val (.int .i64 b4.f_Kind), .str b4.f_Text, .recs (α := List UInt8) [] E_string b4.f_Keys, .tree (α := S_api_Node) (S_api_Node.mk 0 [] [] []) pre_S_api_Node kids_S_api_Node b4.f_Kids]), (8, 25, [.val (.int .i64 b8.f_Kind), .str b8.f_Text, .recs (α := List UInt8) [] E_string b8.f_Keys, .row 57]), (57, 25, [.rowc false (α := S_api_Node) (S_api_Node.mk 0 [] [] []) E_api_Node (b8.f_Kids ++ ([r3.1] : List (S_api_Node)))]), (1000000, 3, [.val (.int .i64 r3.2.2)])]) (ob := [(MkOb 4 [.val (.int .i64 r3.1.f_Kind), .str r3.1.f_Text, .recs (α := List UInt8) [] E_string r3.1.f_Keys, .tree (α := S_api_Node) (S_api_Node.mk 0 [] [] []) pre_S_api_Node kids_S_api_Node r3.1.f_Kids] 1 (.recs (α := S_api_Node) (S_api_Node.mk 0 [] [] []) E_api_Node [r3.1]) ∧ GoodR (.recs (α := S_api_Node) (S_api_Node.mk 0 [] [] []) E_api_Node [r3.1])), (decide ((List.length b8.f_Kids + List.length ([r3.1] : List (S_api_Node))) * (72 + 1) ≤ limit)) = true, (AppOb (S_api_Node.mk 0 [] [] []) E_api_Node b8.f_Kids (List.flatMap E_api_Node ([r3.1] : List (S_api_Node))) (List.length ([r3.1] : List (S_api_Node))) (.recs (α := S_api_Node) (S_api_Node.mk 0 [] [] []) E_api_Node (b8.f_Kids ++ ([r3.1] : List (S_api_Node)))) ∧ GoodR (.recs (α := S_api_Node) (S_api_Node.mk 0 [] [] []) E_api_Node (b8.f_Kids ++ ([r3.1] : List (S_api_Node)))))]) (by kernel_rfl) (AllP.cons (mkOb (by kernel_rfl) rfl (by kernel_rfl) (good_E_api_Node _)) (AllP.cons hc4 (AllP.cons (appOb rfl rfl (good_E_api_Node _)) AllP.nil))) ?_
        refine To.blockN ?_
        refine To.thenN ?_
        refine Wp.region hΓ [] [] [] [1, 4, 8, 37, 38, 39] [4, 8, 57, 1000000] (K' := [(1, .fn 10 [.own 1000000 0, .el [.recs (α := List UInt8) [] E_string v1_1], .el [.str v1_2], .el [.str v1_3]]), (4, .own 4 0), (8, .own 8 0), (37, .recs (α := S_api_Node) (S_api_Node.mk 0 [] [] []) E_api_Node v37), (38, .val (.int .i64 v38)), (39, .val (.int .i64 (IntKind.wrap .i64 (v39 + 1))))]) (L' := [(4, 25, [.val (.int .i64 b4.f_Kind), .str b4.f_Text, .recs (α := List UInt8) [] E_string b4.f_Keys, .tree (α := S_api_Node) (S_api_Node.mk 0 [] [] []) pre_S_api_Node kids_S_api_Node b4.f_Kids]), (8, 25, [.val (.int .i64 b8.f_Kind), .str b8.f_Text, .recs (α := List UInt8) [] E_string b8.f_Keys, .row 57]), (57, 25, [.rowc false (α := S_api_Node) (S_api_Node.mk 0 [] [] []) E_api_Node (b8.f_Kids ++ ([r3.1] : List (S_api_Node)))]), (1000000, 3, [.val (.int .i64 r3.2.2)])]) (ob := []) (by kernel_rfl) AllP.nil ?_
        refine To.keep (kk := [1, 4, 8, 37, 38, 39]) (kl := [4, 8, 57, 1000000]) (K' := [(1, .fn 10 [.own 1000000 0, .el [.recs (α := List UInt8) [] E_string v1_1], .el [.str v1_2], .el [.str v1_3]]), (4, .own 4 0), (8, .own 8 0), (37, .recs (α := S_api_Node) (S_api_Node.mk 0 [] [] []) E_api_Node v37), (38, .val (.int .i64 v38)), (39, .val (.int .i64 (IntKind.wrap .i64 (v39 + 1))))]) (L' := [(4, 25, [.val (.int .i64 b4.f_Kind), .str b4.f_Text, .recs (α := List UInt8) [] E_string b4.f_Keys, .tree (α := S_api_Node) (S_api_Node.mk 0 [] [] []) pre_S_api_Node kids_S_api_Node b4.f_Kids]), (8, 25, [.val (.int .i64 b8.f_Kind), .str b8.f_Text, .recs (α := List UInt8) [] E_string b8.f_Keys, .row 57]), (57, 25, [.rowc false (α := S_api_Node) (S_api_Node.mk 0 [] [] []) E_api_Node (b8.f_Kids ++ ([r3.1] : List (S_api_Node)))]), (1000000, 3, [.val (.int .i64 r3.2.2)])]) (by kernel_rfl) (by kernel_rfl) ?_
        refine To.pre (St.rename 57 4483 (by decide) (K' := [(1, .fn 10 [.own 1000000 0, .el [.recs (α := List UInt8) [] E_string v1_1], .el [.str v1_2], .el [.str v1_3]]), (4, .own 4 0), (8, .own 8 0), (37, .recs (α := S_api_Node) (S_api_Node.mk 0 [] [] []) E_api_Node v37), (38, .val (.int .i64 v38)), (39, .val (.int .i64 (IntKind.wrap .i64 (v39 + 1))))]) (L' := [(4, 25, [.val (.int .i64 b4.f_Kind), .str b4.f_Text, .recs (α := List UInt8) [] E_string b4.f_Keys, .tree (α := S_api_Node) (S_api_Node.mk 0 [] [] []) pre_S_api_Node kids_S_api_Node b4.f_Kids]), (8, 25, [.val (.int .i64 b8.f_Kind), .str b8.f_Text, .recs (α := List UInt8) [] E_string b8.f_Keys, .row 4483]), (4483, 25, [.rowc false (α := S_api_Node) (S_api_Node.mk 0 [] [] []) E_api_Node (b8.f_Kids ++ ([r3.1] : List (S_api_Node)))]), (1000000, 3, [.val (.int .i64 r3.2.2)])]) (by kernel_rfl) (by kernel_rfl) (by kernel_rfl)) ?_
        refine To.keep (kk := [1, 4, 8, 37, 38, 39]) (kl := [4, 8, 4483, 1000000]) (K' := [(1, .fn 10 [.own 1000000 0, .el [.recs (α := List UInt8) [] E_string v1_1], .el [.str v1_2], .el [.str v1_3]]), (4, .own 4 0), (8, .own 8 0), (37, .recs (α := S_api_Node) (S_api_Node.mk 0 [] [] []) E_api_Node v37), (38, .val (.int .i64 v38)), (39, .val (.int .i64 (IntKind.wrap .i64 (v39 + 1))))]) (L' := [(4, 25, [.val (.int .i64 b4.f_Kind), .str b4.f_Text, .recs (α := List UInt8) [] E_string b4.f_Keys, .tree (α := S_api_Node) (S_api_Node.mk 0 [] [] []) pre_S_api_Node kids_S_api_Node b4.f_Kids]), (8, 25, [.val (.int .i64 b8.f_Kind), .str b8.f_Text, .recs (α := List UInt8) [] E_string b8.f_Keys, .row 4483]), (4483, 25, [.rowc false (α := S_api_Node) (S_api_Node.mk 0 [] [] []) E_api_Node (b8.f_Kids ++ ([r3.1] : List (S_api_Node)))]), (1000000, 3, [.val (.int .i64 r3.2.2)])]) (by kernel_rfl) (by kernel_rfl) ?_
        refine To.again ?_
        exact ih (IntKind.wrap .i64 (v39 + 1)) b4 (S_api_Node.mk b8.f_Kind b8.f_Text b8.f_Keys (b8.f_Kids ++ ([r3.1] : List (S_api_Node)))) r3.2.2 _ h hQ
    · replace h := if_f hb h
      refine Wp.exit ?_
      refine To.thenX ?_
      refine To.thenX ?_
      refine To.keep (kk := [4, 8]) (kl := [4, 8, 4483, 1000000]) (K' := [(4, .own 4 0), (8, .own 8 0)]) (L' := [(4, 25, [.val (.int .i64 b4.f_Kind), .str b4.f_Text, .recs (α := List UInt8) [] E_string b4.f_Keys, .tree (α := S_api_Node) (S_api_Node.mk 0 [] [] []) pre_S_api_Node kids_S_api_Node b4.f_Kids]), (8, 25, [.val (.int .i64 b8.f_Kind), .str b8.f_Text, .recs (α := List UInt8) [] E_string b8.f_Keys, .row 4483]), (4483, 25, [.rowc false (α := S_api_Node) (S_api_Node.mk 0 [] [] []) E_api_Node b8.f_Kids]), (1000000, 3, [.val (.int .i64 b1000000)])]) (by kernel_rfl) (by kernel_rfl) ?_
      cases h
      exact hQ
def node_Each__law08_NodeEach_1_o0_e_e_e_b (R_node_Each__law08_NodeEach_1_o0_e_e_e : S_api_Node → (List (List UInt8)) → (List UInt8) → (List UInt8) → Int → Option (S_api_Node × Int × Int)) (n : Nat) (a0 : S_api_Node) (c0 : List (List UInt8)) (c1 : List UInt8) (c2 : List UInt8) (h0 : Int) : Option (S_api_Node × Int × Int) :=
  if (a0.f_Kind == 1) = true then ((law08_NodeEach_1__o0__e__e__e n a0.f_Text c0 c1 c2 h0).bind fun r1 =>
  if (r1.2.1 != 0) = true then (some ((S_api_Node.mk 0 [] [] []), r1.2.1, r1.2.2))
  else (lett (node_Text r1.1) fun r2 =>
  some (r2, 0, r1.2.2)))
  else ((node_Each__law08_NodeEach_1_o0_e_e_e_l1 R_node_Each__law08_NodeEach_1_o0_e_e_e n c0 c1 c2 a0.f_Kids (List.length a0.f_Kids : Int) n 0 (S_api_Node.mk 0 [] [] []) (S_api_Node.mk a0.f_Kind a0.f_Text a0.f_Keys []) h0).bind fun o3 =>
  (Sum.elim (fun o3 => some (o3.2.1, 0, o3.2.2)) (fun o3 => some (o3.2.1, o3.1, o3.2.2))) o3)
end Go.Proofs.Ytjicbelggepaiaa.M
