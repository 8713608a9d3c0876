/-
  Part of the proof of NodeEach: M08b.
-/
import Derived.Test.YtjicbelggepaiaaQM08a
set_option linter.all false
namespace Go.Proofs.Ytjicbelggepaiaa.M
open Go.RowKit Go.Proofs.Ytjicbelggepaiaa.RX
set_option maxRecDepth 100000
theorem ok_ref08_Get_l2 (n : Nat) (v1 : List UInt8) (b2 : S_api_Node) {F0 : Fz} {w0 : Pt Try.prog} {Q : Exit → Act → World → Prop} (k : Nat) : ∀ (v6 : Int) (b4 : S_api_Node) (o : Sum (S_api_Node) (Bool × S_api_Node)), ref08_Get_l2 n v1 b2 k v6 b4 = some o → (Sum.elim (fun s => To 30 F0 w0 [(4, .own 4 0)] [(4, 25, [.val (.int .i64 s.f_Kind), .str s.f_Text, .recs (α := List UInt8) [] E_string s.f_Keys, .tree (α := S_api_Node) (S_api_Node.mk 0 [] [] []) pre_S_api_Node kids_S_api_Node s.f_Kids])] (.exit 0) Q) (fun s => To 30 F0 w0 [(4, .own 4 0), (5, .val (.bool s.1))] [(4, 25, [.val (.int .i64 s.2.f_Kind), .str s.2.f_Text, .recs (α := List UInt8) [] E_string s.2.f_Keys, .tree (α := S_api_Node) (S_api_Node.mk 0 [] [] []) pre_S_api_Node kids_S_api_Node s.2.f_Kids])] .ret Q)) o → WL Try.prog 30 F0 w0 [(1, .str v1), (2, .own 2 0), (4, .own 4 0), (6, .val (.int .i64 v6))] [(2, 25, [.val (.int .i64 b2.f_Kind), .str b2.f_Text, .recs (α := List UInt8) [] E_string b2.f_Keys, .tree (α := S_api_Node) (S_api_Node.mk 0 [] [] []) pre_S_api_Node kids_S_api_Node b2.f_Kids]), (4, 25, [.val (.int .i64 b4.f_Kind), .str b4.f_Text, .recs (α := List UInt8) [] E_string b4.f_Keys, .tree (α := S_api_Node) (S_api_Node.mk 0 [] [] []) pre_S_api_Node kids_S_api_Node b4.f_Kids])] (cI (cI (cB (cT (cB (cA (cB (cF Try.f18)))))))) Q := by
  induction k with
  | zero => intro v6 b4 o h; cases h
  | succ k ih =>
    intro v6 b4 o h hQ
    rw [ref08_Get_l2] at h
    refine WL.round ?_
    refine Wp.seq ?_
    refine Wp.seq ?_
    refine Wp.region hΓ [] [] [] [1, 2, 4, 6, 14] [2, 4] (K' := [(1, .str v1), (2, .own 2 0), (4, .own 4 0), (6, .val (.int .i64 v6)), (14, .val (.bool (decide (v6 < (List.length b2.f_Keys : Int)))))]) (L' := [(2, 25, [.val (.int .i64 b2.f_Kind), .str b2.f_Text, .recs (α := List UInt8) [] E_string b2.f_Keys, .tree (α := S_api_Node) (S_api_Node.mk 0 [] [] []) pre_S_api_Node kids_S_api_Node b2.f_Kids]), (4, 25, [.val (.int .i64 b4.f_Kind), .str b4.f_Text, .recs (α := List UInt8) [] E_string b4.f_Keys, .tree (α := S_api_Node) (S_api_Node.mk 0 [] [] []) pre_S_api_Node kids_S_api_Node b4.f_Kids])]) (ob := []) (by kernel_rfl) AllP.nil ?_
    refine To.thenN ?_
    refine Wp.cond (b := (decide (v6 < (List.length b2.f_Keys : Int)))) (by kernel_rfl) (fun hb => ?_) (fun hb => ?_)
    · replace h := if_t hb h
      refine Wp.skip ?_
      refine To.thenN ?_
      refine Wp.seq ?_
      refine Wp.block ?_
      refine Wp.seq ?_
      obtain ⟨hc2, h⟩ := chk_of h
      refine Wp.region hΓ [] [] [] [1, 2, 4, 6, 23] [2, 4] (K' := [(1, .str v1), (2, .own 2 0), (4, .own 4 0), (6, .val (.int .i64 v6)), (23, .val (.bool (((b2.f_Keys)[Int.toNat v6]?.getD []) == v1)))]) (L' := [(2, 25, [.val (.int .i64 b2.f_Kind), .str b2.f_Text, .recs (α := List UInt8) [] E_string b2.f_Keys, .tree (α := S_api_Node) (S_api_Node.mk 0 [] [] []) pre_S_api_Node kids_S_api_Node b2.f_Kids]), (4, 25, [.val (.int .i64 b4.f_Kind), .str b4.f_Text, .recs (α := List UInt8) [] E_string b4.f_Keys, .tree (α := S_api_Node) (S_api_Node.mk 0 [] [] []) pre_S_api_Node kids_S_api_Node b4.f_Kids])]) (ob := [(decide (0 ≤ v6 ∧ v6 < (List.length b2.f_Keys : Int))) = true]) (by kernel_rfl) (AllP.cons hc2 AllP.nil) ?_
      refine To.thenN ?_
      refine Wp.cond (b := (((b2.f_Keys)[Int.toNat v6]?.getD []) == v1)) (by kernel_rfl) (fun hb => ?_) (fun hb => ?_)
      · replace h := if_t hb h
        refine Wp.seq ?_
        obtain ⟨hc1, h⟩ := chk_of h
        refine Wp.region hΓ [] [] [] [4, 5] [4] (K' := [(4, .own 4 0), (5, .val (.bool true))]) (L' := [(4, 25, [.val (.int .i64 (((b2.f_Kids)[Int.toNat v6]?.getD (S_api_Node.mk 0 [] [] [])).f_Kind)), .str (((b2.f_Kids)[Int.toNat v6]?.getD (S_api_Node.mk 0 [] [] [])).f_Text), .recs (α := List UInt8) [] E_string (((b2.f_Kids)[Int.toNat v6]?.getD (S_api_Node.mk 0 [] [] [])).f_Keys), .tree (α := S_api_Node) (S_api_Node.mk 0 [] [] []) pre_S_api_Node kids_S_api_Node (((b2.f_Kids)[Int.toNat v6]?.getD (S_api_Node.mk 0 [] [] [])).f_Kids)])]) (ob := [(decide (0 ≤ v6 ∧ v6 < (List.length b2.f_Kids : Int))) = true]) (by kernel_rfl) (AllP.cons hc1 AllP.nil) ?_
        refine To.thenN ?_
        refine Wp.ret ?_
        refine To.blockR ?_
        refine To.thenR ?_
        refine To.thenR ?_
        refine To.keep (kk := [4, 5]) (kl := [4]) (K' := [(4, .own 4 0), (5, .val (.bool true))]) (L' := [(4, 25, [.val (.int .i64 (((b2.f_Kids)[Int.toNat v6]?.getD (S_api_Node.mk 0 [] [] [])).f_Kind)), .str (((b2.f_Kids)[Int.toNat v6]?.getD (S_api_Node.mk 0 [] [] [])).f_Text), .recs (α := List UInt8) [] E_string (((b2.f_Kids)[Int.toNat v6]?.getD (S_api_Node.mk 0 [] [] [])).f_Keys), .tree (α := S_api_Node) (S_api_Node.mk 0 [] [] []) pre_S_api_Node kids_S_api_Node (((b2.f_Kids)[Int.toNat v6]?.getD (S_api_Node.mk 0 [] [] [])).f_Kids)])]) (by kernel_rfl) (by kernel_rfl) ?_
        cases h
        exact hQ
      · replace h := if_f hb h
        refine Wp.skip ?_
        refine To.blockN ?_
        refine To.thenN ?_
        refine Wp.region hΓ [] [] [] [1, 2, 4, 6] [2, 4] (K' := [(1, .str v1), (2, .own 2 0), (4, .own 4 0), (6, .val (.int .i64 (IntKind.wrap .i64 (v6 + 1))))]) (L' := [(2, 25, [.val (.int .i64 b2.f_Kind), .str b2.f_Text, .recs (α := List UInt8) [] E_string b2.f_Keys, .tree (α := S_api_Node) (S_api_Node.mk 0 [] [] []) pre_S_api_Node kids_S_api_Node b2.f_Kids]), (4, 25, [.val (.int .i64 b4.f_Kind), .str b4.f_Text, .recs (α := List UInt8) [] E_string b4.f_Keys, .tree (α := S_api_Node) (S_api_Node.mk 0 [] [] []) pre_S_api_Node kids_S_api_Node b4.f_Kids])]) (ob := []) (by kernel_rfl) AllP.nil ?_
        refine To.keep (kk := [1, 2, 4, 6]) (kl := [2, 4]) (K' := [(1, .str v1), (2, .own 2 0), (4, .own 4 0), (6, .val (.int .i64 (IntKind.wrap .i64 (v6 + 1))))]) (L' := [(2, 25, [.val (.int .i64 b2.f_Kind), .str b2.f_Text, .recs (α := List UInt8) [] E_string b2.f_Keys, .tree (α := S_api_Node) (S_api_Node.mk 0 [] [] []) pre_S_api_Node kids_S_api_Node b2.f_Kids]), (4, 25, [.val (.int .i64 b4.f_Kind), .str b4.f_Text, .recs (α := List UInt8) [] E_string b4.f_Keys, .tree (α := S_api_Node) (S_api_Node.mk 0 [] [] []) pre_S_api_Node kids_S_api_Node b4.f_Kids])]) (by kernel_rfl) (by kernel_rfl) ?_
        refine To.again ?_
        exact ih (IntKind.wrap .i64 (v6 + 1)) b4 _ h hQ
    · replace h := if_f hb h
      refine Wp.exit ?_
      refine To.thenX ?_
      refine To.thenX ?_
      refine To.keep (kk := [4]) (kl := [4]) (K' := [(4, .own 4 0)]) (L' := [(4, 25, [.val (.int .i64 b4.f_Kind), .str b4.f_Text, .recs (α := List UInt8) [] E_string b4.f_Keys, .tree (α := S_api_Node) (S_api_Node.mk 0 [] [] []) pre_S_api_Node kids_S_api_Node b4.f_Kids])]) (by kernel_rfl) (by kernel_rfl) ?_
      cases h
      exact hQ
def ref08_Get_j1 (n : Nat) (v1 : List UInt8) (v9 : Bool) (b2 : S_api_Node) (b4 : S_api_Node) : Option (Sum (S_api_Node) (Bool × S_api_Node)) :=
  if v9 = true then ((ref08_Get_l2 n v1 b2 n 0 b4).bind fun o1 =>
  (Sum.elim (fun o1 => some (.inl o1)) (fun o1 => some (.inr (o1.1, o1.2)))) o1)
  else (some (.inl b4))
theorem ok_ref08_Get_j1 (n : Nat) (v1 : List UInt8) (v9 : Bool) (b2 : S_api_Node) (b4 : S_api_Node) (o : Sum (S_api_Node) (Bool × S_api_Node)) (h : ref08_Get_j1 n v1 v9 b2 b4 = some o) {F0 : Fz} {w0 : Pt Try.prog} {Q : Exit → Act → World → Prop} (hQ : (Sum.elim (fun s => To 30 F0 w0 [(4, .own 4 0)] [(4, 25, [.val (.int .i64 s.f_Kind), .str s.f_Text, .recs (α := List UInt8) [] E_string s.f_Keys, .tree (α := S_api_Node) (S_api_Node.mk 0 [] [] []) pre_S_api_Node kids_S_api_Node s.f_Kids])] .normal Q) (fun s => To 30 F0 w0 [(4, .own 4 0), (5, .val (.bool s.1))] [(4, 25, [.val (.int .i64 s.2.f_Kind), .str s.2.f_Text, .recs (α := List UInt8) [] E_string s.2.f_Keys, .tree (α := S_api_Node) (S_api_Node.mk 0 [] [] []) pre_S_api_Node kids_S_api_Node s.2.f_Kids])] .ret Q)) o) : Wp Try.prog 30 F0 w0 [(1, .str v1), (2, .own 2 0), (4, .own 4 0), (9, .val (.bool v9))] [(2, 25, [.val (.int .i64 b2.f_Kind), .str b2.f_Text, .recs (α := List UInt8) [] E_string b2.f_Keys, .tree (α := S_api_Node) (S_api_Node.mk 0 [] [] []) pre_S_api_Node kids_S_api_Node b2.f_Kids]), (4, 25, [.val (.int .i64 b4.f_Kind), .str b4.f_Text, .recs (α := List UInt8) [] E_string b4.f_Keys, .tree (α := S_api_Node) (S_api_Node.mk 0 [] [] []) pre_S_api_Node kids_S_api_Node b4.f_Kids])] (cB (cA (cB (cF Try.f18)))) Q := by
  unfold ref08_Get_j1 at h
  refine Wp.cond (b := v9) (by kernel_rfl) (fun hb => ?_) (fun hb => ?_)
  · replace h := if_t hb h
    refine Wp.seq ?_
    refine Wp.region hΓ [] [] [] [1, 2, 4, 6] [2, 4] (K' := [(1, .str v1), (2, .own 2 0), (4, .own 4 0), (6, .val (.int .i64 0))]) (L' := [(2, 25, [.val (.int .i64 b2.f_Kind), .str b2.f_Text, .recs (α := List UInt8) [] E_string b2.f_Keys, .tree (α := S_api_Node) (S_api_Node.mk 0 [] [] []) pre_S_api_Node kids_S_api_Node b2.f_Kids]), (4, 25, [.val (.int .i64 b4.f_Kind), .str b4.f_Text, .recs (α := List UInt8) [] E_string b4.f_Keys, .tree (α := S_api_Node) (S_api_Node.mk 0 [] [] []) pre_S_api_Node kids_S_api_Node b4.f_Kids])]) (ob := []) (by kernel_rfl) AllP.nil ?_
    refine To.thenN ?_
    refine Wp.block ?_
    obtain ⟨o1, ho1, h⟩ := bind_of h
    refine Wp.keep (kk := [1, 2, 4, 6]) (kl := [2, 4]) (K' := [(1, .str v1), (2, .own 2 0), (4, .own 4 0), (6, .val (.int .i64 0))]) (L' := [(2, 25, [.val (.int .i64 b2.f_Kind), .str b2.f_Text, .recs (α := List UInt8) [] E_string b2.f_Keys, .tree (α := S_api_Node) (S_api_Node.mk 0 [] [] []) pre_S_api_Node kids_S_api_Node b2.f_Kids]), (4, 25, [.val (.int .i64 b4.f_Kind), .str b4.f_Text, .recs (α := List UInt8) [] E_string b4.f_Keys, .tree (α := S_api_Node) (S_api_Node.mk 0 [] [] []) pre_S_api_Node kids_S_api_Node b4.f_Kids])]) (by kernel_rfl) (by kernel_rfl) ?_
    refine Wp.loopL ?_
    refine ok_ref08_Get_l2 n v1 b2 n 0 b4 o1 ho1 ?_
    rcases o1 with o1 | o1
    · replace h := sum_l h
      refine To.blockX ?_
      refine To.keep (kk := [4]) (kl := [4]) (K' := [(4, .own 4 0)]) (L' := [(4, 25, [.val (.int .i64 o1.f_Kind), .str o1.f_Text, .recs (α := List UInt8) [] E_string o1.f_Keys, .tree (α := S_api_Node) (S_api_Node.mk 0 [] [] []) pre_S_api_Node kids_S_api_Node o1.f_Kids])]) (by kernel_rfl) (by kernel_rfl) ?_
      cases h
      exact hQ
    · replace h := sum_r h
      refine To.blockR ?_
      refine To.keep (kk := [4, 5]) (kl := [4]) (K' := [(4, .own 4 0), (5, .val (.bool o1.1))]) (L' := [(4, 25, [.val (.int .i64 o1.2.f_Kind), .str o1.2.f_Text, .recs (α := List UInt8) [] E_string o1.2.f_Keys, .tree (α := S_api_Node) (S_api_Node.mk 0 [] [] []) pre_S_api_Node kids_S_api_Node o1.2.f_Kids])]) (by kernel_rfl) (by kernel_rfl) ?_
      cases h
      exact hQ
  · replace h := if_f hb h
    refine Wp.skip ?_
    refine To.keep (kk := [4]) (kl := [4]) (K' := [(4, .own 4 0)]) (L' := [(4, 25, [.val (.int .i64 b4.f_Kind), .str b4.f_Text, .recs (α := List UInt8) [] E_string b4.f_Keys, .tree (α := S_api_Node) (S_api_Node.mk 0 [] [] []) pre_S_api_Node kids_S_api_Node b4.f_Kids])]) (by kernel_rfl) (by kernel_rfl) ?_
    cases h
    exact hQ
def ref08_Get (n : Nat) (a0 : S_api_Node) (a1 : List UInt8) : Option (S_api_Node × Bool) :=
  (ref08_Get_j1 n a1 (a0.f_Kind == 3) a0 (S_api_Node.mk 0 [] [] [])).bind fun o1 =>
  (Sum.elim (fun o1 => some ((S_api_Node.mk 0 [] [] []), false)) (fun o1 => some (o1.2, o1.1))) o1
theorem ok_ref08_Get (n : Nat) (a0 : S_api_Node) (a1 : List UInt8) (r : S_api_Node × Bool) (h : ref08_Get n a0 a1 = some r) : CallsX Try.prog 18 [.agg [.val (.int .i64 a0.f_Kind), .str a0.f_Text, .recs (α := List UInt8) [] E_string a0.f_Keys, .tree (α := S_api_Node) (S_api_Node.mk 0 [] [] []) pre_S_api_Node kids_S_api_Node a0.f_Kids], .str a1] (.tup [.agg [.val (.int .i64 r.1.f_Kind), .str r.1.f_Text, .recs (α := List UInt8) [] E_string r.1.f_Keys, .tree (α := S_api_Node) (S_api_Node.mk 0 [] [] []) pre_S_api_Node kids_S_api_Node r.1.f_Kids], .val (.bool r.2)]) := by
  unfold ref08_Get at h
  refine callsX_of (fn := Try.f18) (by kernel_rfl) rfl (by kernel_rfl) (Nat.le_of_ble_eq_true (by kernel_rfl)) fun F0 w0 _ => ?_
  refine Wp.keep (kk := [0, 1]) (kl := []) (K' := [(0, .agg [.val (.int .i64 a0.f_Kind), .str a0.f_Text, .recs (α := List UInt8) [] E_string a0.f_Keys, .tree (α := S_api_Node) (S_api_Node.mk 0 [] [] []) pre_S_api_Node kids_S_api_Node a0.f_Kids]), (1, .str a1)]) (L' := []) (by kernel_rfl) (by kernel_rfl) ?_
  refine Wp.seq ?_
  refine Wp.region hΓ [] [] [] [1, 2, 4] [2, 4] (K' := [(1, .str a1), (2, .own 2 0), (4, .own 4 0)]) (L' := [(2, 25, [.val (.int .i64 a0.f_Kind), .str a0.f_Text, .recs (α := List UInt8) [] E_string a0.f_Keys, .tree (α := S_api_Node) (S_api_Node.mk 0 [] [] []) pre_S_api_Node kids_S_api_Node a0.f_Kids]), (4, 25, [.val (.int .i64 0), .str [], .val (.slice none 0 0), .val (.slice none 0 0)])]) (ob := []) (by kernel_rfl) AllP.nil ?_
  refine To.thenN ?_
  refine Wp.seq ?_
  refine Wp.seq ?_
  refine Wp.region hΓ [] [] [] [1, 2, 4, 9] [2, 4] (K' := [(1, .str a1), (2, .own 2 0), (4, .own 4 0), (9, .val (.bool (a0.f_Kind == 3)))]) (L' := [(2, 25, [.val (.int .i64 a0.f_Kind), .str a0.f_Text, .recs (α := List UInt8) [] E_string a0.f_Keys, .tree (α := S_api_Node) (S_api_Node.mk 0 [] [] []) pre_S_api_Node kids_S_api_Node a0.f_Kids]), (4, 25, [.val (.int .i64 0), .str [], .val (.slice none 0 0), .val (.slice none 0 0)])]) (ob := []) (by kernel_rfl) AllP.nil ?_
  refine To.thenN ?_
  obtain ⟨o1, ho1, h⟩ := bind_of h
  refine Wp.keep (kk := [1, 2, 4, 9]) (kl := [2, 4]) (K' := [(1, .str a1), (2, .own 2 0), (4, .own 4 0), (9, .val (.bool (a0.f_Kind == 3)))]) (L' := [(2, 25, [.val (.int .i64 a0.f_Kind), .str a0.f_Text, .recs (α := List UInt8) [] E_string a0.f_Keys, .tree (α := S_api_Node) (S_api_Node.mk 0 [] [] []) pre_S_api_Node kids_S_api_Node a0.f_Kids]), (4, 25, [.val (.int .i64 0), .str [], .val (.slice none 0 0), .val (.slice none 0 0)])]) (by kernel_rfl) (by kernel_rfl) ?_
  refine Wp.weak (K' := [(1, .str a1), (2, .own 2 0), (4, .own 4 0), (9, .val (.bool (a0.f_Kind == 3)))]) (L' := [(2, 25, [.val (.int .i64 a0.f_Kind), .str a0.f_Text, .recs (α := List UInt8) [] E_string a0.f_Keys, .tree (α := S_api_Node) (S_api_Node.mk 0 [] [] []) pre_S_api_Node kids_S_api_Node a0.f_Kids]), (4, 25, [.val (.int .i64 0), .str [], .recs (α := List UInt8) [] E_string [], .tree (α := S_api_Node) (S_api_Node.mk 0 [] [] []) pre_S_api_Node kids_S_api_Node []])]) (.cons (.refl _) (.cons (.refl _) (.cons (.refl _) (.cons (.refl _) .nil)))) (.cons (.cons (.refl _) (.cons (.refl _) (.cons (.refl _) (.cons (.refl _) .nil)))) (.cons (.cons (.refl _) (.cons (.refl _) (.cons (.zero _ _) (.cons (.zeroT _ _ _) .nil)))) .nil)) ?_
  refine ok_ref08_Get_j1 n a1 (a0.f_Kind == 3) a0 (S_api_Node.mk 0 [] [] []) o1 ho1 ?_
  rcases o1 with o1 | o1
  · replace h := sum_l h
    refine To.thenN ?_
    refine Wp.seq ?_
    refine Wp.region hΓ [] [] [] [4, 5] [4] (K' := [(4, .own 4 0), (5, .val (.bool false))]) (L' := [(4, 25, [.val (.int .i64 0), .str [], .val (.slice none 0 0), .val (.slice none 0 0)])]) (ob := []) (by kernel_rfl) AllP.nil ?_
    refine To.thenN ?_
    refine Wp.ret ?_
    refine To.keep (kk := [4, 5]) (kl := [4]) (K' := [(4, .own 4 0), (5, .val (.bool false))]) (L' := [(4, 25, [.val (.int .i64 0), .str [], .val (.slice none 0 0), .val (.slice none 0 0)])]) (by kernel_rfl) (by kernel_rfl) ?_
    refine To.weak (K' := [(4, .own 4 0), (5, .val (.bool false))]) (L' := [(4, 25, [.val (.int .i64 0), .str [], .recs (α := List UInt8) [] E_string [], .tree (α := S_api_Node) (S_api_Node.mk 0 [] [] []) pre_S_api_Node kids_S_api_Node []])]) (.cons (.refl _) (.cons (.refl _) .nil)) (.cons (.cons (.refl _) (.cons (.refl _) (.cons (.zero _ _) (.cons (.zeroT _ _ _) .nil)))) .nil) ?_
    cases h
    exact To.done hΓ (by kernel_rfl)
  · replace h := sum_r h
    refine To.thenR ?_
    refine To.keep (kk := [4, 5]) (kl := [4]) (K' := [(4, .own 4 0), (5, .val (.bool o1.1))]) (L' := [(4, 25, [.val (.int .i64 o1.2.f_Kind), .str o1.2.f_Text, .recs (α := List UInt8) [] E_string o1.2.f_Keys, .tree (α := S_api_Node) (S_api_Node.mk 0 [] [] []) pre_S_api_Node kids_S_api_Node o1.2.f_Kids])]) (by kernel_rfl) (by kernel_rfl) ?_
    cases h
    exact To.done hΓ (by kernel_rfl)
def ref02_Same_l1 (n : Nat) (v0 : List (List UInt8)) (v1 : List (List UInt8)) : Nat → Int → Option (Sum (Unit) (Bool))
  | 0, _ => none
  | k + 1, v5 => if (decide (v5 < (List.length v0 : Int))) = true then (if (decide (0 ≤ v5 ∧ v5 < (List.length v0 : Int))) = true then (if (decide (0 ≤ v5 ∧ v5 < (List.length v1 : Int))) = true then (if (!(((v0)[Int.toNat v5]?.getD []) == ((v1)[Int.toNat v5]?.getD []))) = true then (some (.inr false))
  else (ref02_Same_l1 n v0 v1 k (IntKind.wrap .i64 (v5 + 1)))) else none) else none)
  else (some (.inl ()))
theorem ok_ref02_Same_l1 (n : Nat) (v0 : List (List UInt8)) (v1 : List (List UInt8)) {F0 : Fz} {w0 : Pt Try.prog} {Q : Exit → Act → World → Prop} (k : Nat) : ∀ (v5 : Int) (o : Sum (Unit) (Bool)), ref02_Same_l1 n v0 v1 k v5 = some o → (Sum.elim (fun s => To 26 F0 w0 [] [] (.exit 0) Q) (fun s => To 26 F0 w0 [(4, .val (.bool s))] [] .ret Q)) o → WL Try.prog 26 F0 w0 [(0, .recs (α := List UInt8) [] E_string v0), (1, .recs (α := List UInt8) [] E_string v1), (5, .val (.int .i64 v5))] [] (cI (cI (cB (cA (cB (cB (cF Try.f34))))))) Q := by
  induction k with
  | zero => intro v5 o h; cases h
  | succ k ih =>
    intro v5 o h hQ
    rw [ref02_Same_l1] at h
    refine WL.round ?_
    refine Wp.seq ?_
    refine Wp.seq ?_
    refine Wp.region hΓ [] [] [] [0, 1, 5, 14] [] (K' := [(0, .recs (α := List UInt8) [] E_string v0), (1, .recs (α := List UInt8) [] E_string v1), (5, .val (.int .i64 v5)), (14, .val (.bool (decide (v5 < (List.length v0 : Int)))))]) (L' := []) (ob := []) (by kernel_rfl) AllP.nil ?_
    refine To.thenN ?_
    refine Wp.cond (b := (decide (v5 < (List.length v0 : Int)))) (by kernel_rfl) (fun hb => ?_) (fun hb => ?_)
    · replace h := if_t hb h
      refine Wp.skip ?_
      refine To.thenN ?_
      refine Wp.seq ?_
      refine Wp.block ?_
      refine Wp.seq ?_
      obtain ⟨hc1, h⟩ := chk_of h
      obtain ⟨hc2, h⟩ := chk_of h
      refine Wp.regionD hm hΓ [] [0, 1, 5, 25] [] (K' := [(0, .recs (α := List UInt8) [] E_string v0), (1, .recs (α := List UInt8) [] E_string v1), (5, .val (.int .i64 v5)), (25, .val (.bool (!(((v0)[Int.toNat v5]?.getD []) == ((v1)[Int.toNat v5]?.getD [])))))]) (L' := []) (ob := [(decide (0 ≤ v5 ∧ v5 < (List.length v0 : Int))) = true, (decide (0 ≤ v5 ∧ v5 < (List.length v1 : Int))) = true]) (by kernel_rfl) (AllP.cons hc1 (AllP.cons hc2 AllP.nil)) ?_
      refine To.thenN ?_
      refine Wp.cond (b := (!(((v0)[Int.toNat v5]?.getD []) == ((v1)[Int.toNat v5]?.getD [])))) (by kernel_rfl) (fun hb => ?_) (fun hb => ?_)
      · replace h := if_t hb h
        refine Wp.seq ?_
        refine Wp.region hΓ [] [] [] [4] [] (K' := [(4, .val (.bool false))]) (L' := []) (ob := []) (by kernel_rfl) AllP.nil ?_
        refine To.thenN ?_
        refine Wp.ret ?_
        refine To.blockR ?_
        refine To.thenR ?_
        refine To.thenR ?_
        refine To.keep (kk := [4]) (kl := []) (K' := [(4, .val (.bool false))]) (L' := []) (by kernel_rfl) (by kernel_rfl) ?_
        cases h
        exact hQ
      · replace h := if_f hb h
        refine Wp.skip ?_
        refine To.blockN ?_
        refine To.thenN ?_
        refine Wp.region hΓ [] [] [] [0, 1, 5] [] (K' := [(0, .recs (α := List UInt8) [] E_string v0), (1, .recs (α := List UInt8) [] E_string v1), (5, .val (.int .i64 (IntKind.wrap .i64 (v5 + 1))))]) (L' := []) (ob := []) (by kernel_rfl) AllP.nil ?_
        refine To.keep (kk := [0, 1, 5]) (kl := []) (K' := [(0, .recs (α := List UInt8) [] E_string v0), (1, .recs (α := List UInt8) [] E_string v1), (5, .val (.int .i64 (IntKind.wrap .i64 (v5 + 1))))]) (L' := []) (by kernel_rfl) (by kernel_rfl) ?_
        refine To.again ?_
        exact ih (IntKind.wrap .i64 (v5 + 1)) _ h hQ
    · replace h := if_f hb h
      refine Wp.exit ?_
      refine To.thenX ?_
      refine To.thenX ?_
      refine To.keep (kk := []) (kl := []) (K' := []) (L' := []) (by kernel_rfl) (by kernel_rfl) ?_
      cases h
      exact hQ
def ref02_Same (n : Nat) (a0 : List (List UInt8)) (a1 : List (List UInt8)) : Option (Bool) :=
  if ((List.length a0 : Int) != (List.length a1 : Int)) = true then some false
  else ((ref02_Same_l1 n a0 a1 n 0).bind fun o1 =>
  (Sum.elim (fun o1 => some true) (fun o1 => some o1)) o1)
theorem ok_ref02_Same (n : Nat) (a0 : List (List UInt8)) (a1 : List (List UInt8)) (r : Bool) (h : ref02_Same n a0 a1 = some r) : CallsX Try.prog 34 [.recs (α := List UInt8) [] E_string a0, .recs (α := List UInt8) [] E_string a1] (.val (.bool r)) := by
  unfold ref02_Same at h
  refine callsX_of (fn := Try.f34) (by kernel_rfl) rfl (by kernel_rfl) (Nat.le_of_ble_eq_true (by kernel_rfl)) fun F0 w0 _ => ?_
  refine Wp.keep (kk := [0, 1]) (kl := []) (K' := [(0, .recs (α := List UInt8) [] E_string a0), (1, .recs (α := List UInt8) [] E_string a1)]) (L' := []) (by kernel_rfl) (by kernel_rfl) ?_
  refine Wp.seq ?_
  refine Wp.region hΓ [] [] [] [0, 1] [] (K' := [(0, .recs (α := List UInt8) [] E_string a0), (1, .recs (α := List UInt8) [] E_string a1)]) (L' := []) (ob := []) (by kernel_rfl) AllP.nil ?_
  refine To.thenN ?_
  refine Wp.seq ?_
  refine Wp.seq ?_
  refine Wp.region hΓ [] [] [] [0, 1, 10] [] (K' := [(0, .recs (α := List UInt8) [] E_string a0), (1, .recs (α := List UInt8) [] E_string a1), (10, .val (.bool ((List.length a0 : Int) != (List.length a1 : Int))))]) (L' := []) (ob := []) (by kernel_rfl) AllP.nil ?_
  refine To.thenN ?_
  refine Wp.cond (b := ((List.length a0 : Int) != (List.length a1 : Int))) (by kernel_rfl) (fun hb => ?_) (fun hb => ?_)
  · replace h := if_t hb h
    refine Wp.seq ?_
    refine Wp.region hΓ [] [] [] [4] [] (K' := [(4, .val (.bool false))]) (L' := []) (ob := []) (by kernel_rfl) AllP.nil ?_
    refine To.thenN ?_
    refine Wp.ret ?_
    refine To.thenR ?_
    refine To.keep (kk := [4]) (kl := []) (K' := [(4, .val (.bool false))]) (L' := []) (by kernel_rfl) (by kernel_rfl) ?_
    cases h
    exact To.done hΓ (by kernel_rfl)
  · replace h := if_f hb h
    refine Wp.skip ?_
    refine To.thenN ?_
    refine Wp.seq ?_
    refine Wp.seq ?_
    refine Wp.region hΓ [] [] [] [0, 1, 5] [] (K' := [(0, .recs (α := List UInt8) [] E_string a0), (1, .recs (α := List UInt8) [] E_string a1), (5, .val (.int .i64 0))]) (L' := []) (ob := []) (by kernel_rfl) AllP.nil ?_
    refine To.thenN ?_
    refine Wp.block ?_
    obtain ⟨o1, ho1, h⟩ := bind_of h
    refine Wp.keep (kk := [0, 1, 5]) (kl := []) (K' := [(0, .recs (α := List UInt8) [] E_string a0), (1, .recs (α := List UInt8) [] E_string a1), (5, .val (.int .i64 0))]) (L' := []) (by kernel_rfl) (by kernel_rfl) ?_
    refine Wp.loopL ?_
    refine ok_ref02_Same_l1 n a0 a1 n 0 o1 ho1 ?_
    rcases o1 with o1 | o1
    · replace h := sum_l h
      refine To.blockX ?_
      refine To.thenN ?_
      refine Wp.seq ?_
      refine Wp.region hΓ [] [] [] [4] [] (K' := [(4, .val (.bool true))]) (L' := []) (ob := []) (by kernel_rfl) AllP.nil ?_
      refine To.thenN ?_
      refine Wp.ret ?_
      refine To.keep (kk := [4]) (kl := []) (K' := [(4, .val (.bool true))]) (L' := []) (by kernel_rfl) (by kernel_rfl) ?_
      cases h
      exact To.done hΓ (by kernel_rfl)
    · replace h := sum_r h
      refine To.blockR ?_
      refine To.thenR ?_
      refine To.keep (kk := [4]) (kl := []) (K' := [(4, .val (.bool o1))]) (L' := []) (by kernel_rfl) (by kernel_rfl) ?_
      cases h
      exact To.done hΓ (by kernel_rfl)
def ref08_Same_l1 (R_ref08_Same : S_api_Node → S_api_Node → Option (Bool)) (n : Nat) (b2 : S_api_Node) (b3 : S_api_Node) : Nat → Int → Option (Sum (Unit) (Bool))
  | 0, _ => none
  | k + 1, v5 => if (decide (v5 < (List.length b2.f_Kids : Int))) = true then (if (decide (0 ≤ v5 ∧ v5 < (List.length b2.f_Kids : Int))) = true then (if (decide (0 ≤ v5 ∧ v5 < (List.length b3.f_Kids : Int))) = true then ((R_ref08_Same (S_api_Node.mk (((b2.f_Kids)[Int.toNat v5]?.getD (S_api_Node.mk 0 [] [] [])).f_Kind) (((b2.f_Kids)[Int.toNat v5]?.getD (S_api_Node.mk 0 [] [] [])).f_Text) (((b2.f_Kids)[Int.toNat v5]?.getD (S_api_Node.mk 0 [] [] [])).f_Keys) (((b2.f_Kids)[Int.toNat v5]?.getD (S_api_Node.mk 0 [] [] [])).f_Kids)) (S_api_Node.mk (((b3.f_Kids)[Int.toNat v5]?.getD (S_api_Node.mk 0 [] [] [])).f_Kind) (((b3.f_Kids)[Int.toNat v5]?.getD (S_api_Node.mk 0 [] [] [])).f_Text) (((b3.f_Kids)[Int.toNat v5]?.getD (S_api_Node.mk 0 [] [] [])).f_Keys) (((b3.f_Kids)[Int.toNat v5]?.getD (S_api_Node.mk 0 [] [] [])).f_Kids))).bind fun r3 =>
  if (!r3) = true then (some (.inr false))
  else (ref08_Same_l1 R_ref08_Same n b2 b3 k (IntKind.wrap .i64 (v5 + 1)))) else none) else none)
  else (some (.inl ()))
theorem ok_ref08_Same_l1 (R_ref08_Same : S_api_Node → S_api_Node → Option (Bool)) (hR_ref08_Same : ∀ (a0 : S_api_Node) (a1 : S_api_Node) (r : Bool), R_ref08_Same a0 a1 = some r → CallsX Try.prog 11 [.agg [.val (.int .i64 a0.f_Kind), .str a0.f_Text, .recs (α := List UInt8) [] E_string a0.f_Keys, .tree (α := S_api_Node) (S_api_Node.mk 0 [] [] []) pre_S_api_Node kids_S_api_Node a0.f_Kids], .agg [.val (.int .i64 a1.f_Kind), .str a1.f_Text, .recs (α := List UInt8) [] E_string a1.f_Keys, .tree (α := S_api_Node) (S_api_Node.mk 0 [] [] []) pre_S_api_Node kids_S_api_Node a1.f_Kids]] (.val (.bool r))) (n : Nat) (b2 : S_api_Node) (b3 : S_api_Node) {F0 : Fz} {w0 : Pt Try.prog} {Q : Exit → Act → World → Prop} (k : Nat) : ∀ (v5 : Int) (o : Sum (Unit) (Bool)), ref08_Same_l1 R_ref08_Same n b2 b3 k v5 = some o → (Sum.elim (fun s => To 54 F0 w0 [] [] (.exit 0) Q) (fun s => To 54 F0 w0 [(4, .val (.bool s))] [] .ret Q)) o → WL Try.prog 54 F0 w0 [(2, .own 2 0), (3, .own 3 0), (5, .val (.int .i64 v5))] [(2, 25, [.val (.int .i64 b2.f_Kind), .str b2.f_Text, .recs (α := List UInt8) [] E_string b2.f_Keys, .tree (α := S_api_Node) (S_api_Node.mk 0 [] [] []) pre_S_api_Node kids_S_api_Node b2.f_Kids]), (3, 25, [.val (.int .i64 b3.f_Kind), .str b3.f_Text, .recs (α := List UInt8) [] E_string b3.f_Keys, .tree (α := S_api_Node) (S_api_Node.mk 0 [] [] []) pre_S_api_Node kids_S_api_Node b3.f_Kids])] (cI (cI (cB (cA (cB (cB (cF Try.f11))))))) Q := by
  induction k with
  | zero => intro v5 o h; cases h
  | succ k ih =>
    intro v5 o h hQ
    rw [ref08_Same_l1] at h
    refine WL.round ?_
    refine Wp.seq ?_
    refine Wp.seq ?_
    refine Wp.region hΓ [] [] [] [2, 3, 5, 39] [2, 3] (K' := [(2, .own 2 0), (3, .own 3 0), (5, .val (.int .i64 v5)), (39, .val (.bool (decide (v5 < (List.length b2.f_Kids : Int)))))]) (L' := [(2, 25, [.val (.int .i64 b2.f_Kind), .str b2.f_Text, .recs (α := List UInt8) [] E_string b2.f_Keys, .tree (α := S_api_Node) (S_api_Node.mk 0 [] [] []) pre_S_api_Node kids_S_api_Node b2.f_Kids]), (3, 25, [.val (.int .i64 b3.f_Kind), .str b3.f_Text, .recs (α := List UInt8) [] E_string b3.f_Keys, .tree (α := S_api_Node) (S_api_Node.mk 0 [] [] []) pre_S_api_Node kids_S_api_Node b3.f_Kids])]) (ob := []) (by kernel_rfl) AllP.nil ?_
    refine To.thenN ?_
    refine Wp.cond (b := (decide (v5 < (List.length b2.f_Kids : Int)))) (by kernel_rfl) (fun hb => ?_) (fun hb => ?_)
    · replace h := if_t hb h
      refine Wp.skip ?_
      refine To.thenN ?_
      refine Wp.seq ?_
      refine Wp.block ?_
      refine Wp.seq ?_
      obtain ⟨hc4, h⟩ := chk_of h
      obtain ⟨hc5, h⟩ := chk_of h
      obtain ⟨r3, hr3, h⟩ := bind_of h
      refine Wp.regionD hm hΓ [(10, .val (.bool r3))] [2, 3, 5, 53] [2, 3] (K' := [(2, .own 2 0), (3, .own 3 0), (5, .val (.int .i64 v5)), (53, .val (.bool (!r3)))]) (L' := [(2, 25, [.val (.int .i64 b2.f_Kind), .str b2.f_Text, .recs (α := List UInt8) [] E_string b2.f_Keys, .tree (α := S_api_Node) (S_api_Node.mk 0 [] [] []) pre_S_api_Node kids_S_api_Node b2.f_Kids]), (3, 25, [.val (.int .i64 b3.f_Kind), .str b3.f_Text, .recs (α := List UInt8) [] E_string b3.f_Keys, .tree (α := S_api_Node) (S_api_Node.mk 0 [] [] []) pre_S_api_Node kids_S_api_Node b3.f_Kids])]) (ob := [(decide (0 ≤ v5 ∧ v5 < (List.length b2.f_Kids : Int))) = true, (decide (0 ≤ v5 ∧ v5 < (List.length b3.f_Kids : Int))) = true, (true = true → CX Try.prog 11 [.agg [.val (.int .i64 (((b2.f_Kids)[Int.toNat v5]?.getD (S_api_Node.mk 0 [] [] [])).f_Kind)), .str (((b2.f_Kids)[Int.toNat v5]?.getD (S_api_Node.mk 0 [] [] [])).f_Text), .recs (α := List UInt8) [] E_string (((b2.f_Kids)[Int.toNat v5]?.getD (S_api_Node.mk 0 [] [] [])).f_Keys), .tree (α := S_api_Node) (S_api_Node.mk 0 [] [] []) pre_S_api_Node kids_S_api_Node (((b2.f_Kids)[Int.toNat v5]?.getD (S_api_Node.mk 0 [] [] [])).f_Kids)], .agg [.val (.int .i64 (((b3.f_Kids)[Int.toNat v5]?.getD (S_api_Node.mk 0 [] [] [])).f_Kind)), .str (((b3.f_Kids)[Int.toNat v5]?.getD (S_api_Node.mk 0 [] [] [])).f_Text), .recs (α := List UInt8) [] E_string (((b3.f_Kids)[Int.toNat v5]?.getD (S_api_Node.mk 0 [] [] [])).f_Keys), .tree (α := S_api_Node) (S_api_Node.mk 0 [] [] []) pre_S_api_Node kids_S_api_Node (((b3.f_Kids)[Int.toNat v5]?.getD (S_api_Node.mk 0 [] [] [])).f_Kids)]] (.val (.bool r3)))]) (by kernel_rfl) (AllP.cons hc4 (AllP.cons hc5 (AllP.cons (fun _ => cx (hR_ref08_Same (S_api_Node.mk (((b2.f_Kids)[Int.toNat v5]?.getD (S_api_Node.mk 0 [] [] [])).f_Kind) (((b2.f_Kids)[Int.toNat v5]?.getD (S_api_Node.mk 0 [] [] [])).f_Text) (((b2.f_Kids)[Int.toNat v5]?.getD (S_api_Node.mk 0 [] [] [])).f_Keys) (((b2.f_Kids)[Int.toNat v5]?.getD (S_api_Node.mk 0 [] [] [])).f_Kids)) (S_api_Node.mk (((b3.f_Kids)[Int.toNat v5]?.getD (S_api_Node.mk 0 [] [] [])).f_Kind) (((b3.f_Kids)[Int.toNat v5]?.getD (S_api_Node.mk 0 [] [] [])).f_Text) (((b3.f_Kids)[Int.toNat v5]?.getD (S_api_Node.mk 0 [] [] [])).f_Keys) (((b3.f_Kids)[Int.toNat v5]?.getD (S_api_Node.mk 0 [] [] [])).f_Kids)) _ hr3)) AllP.nil))) ?_
      refine To.thenN ?_
      refine Wp.cond (b := (!r3)) (by kernel_rfl) (fun hb => ?_) (fun hb => ?_)
      · replace h := if_t hb h
        refine Wp.seq ?_
        refine Wp.region hΓ [] [] [] [4] [] (K' := [(4, .val (.bool false))]) (L' := []) (ob := []) (by kernel_rfl) AllP.nil ?_
        refine To.thenN ?_
        refine Wp.ret ?_
        refine To.blockR ?_
        refine To.thenR ?_
        refine To.thenR ?_
        refine To.keep (kk := [4]) (kl := []) (K' := [(4, .val (.bool false))]) (L' := []) (by kernel_rfl) (by kernel_rfl) ?_
        cases h
        exact hQ
      · replace h := if_f hb h
        refine Wp.skip ?_
        refine To.blockN ?_
        refine To.thenN ?_
        refine Wp.region hΓ [] [] [] [2, 3, 5] [2, 3] (K' := [(2, .own 2 0), (3, .own 3 0), (5, .val (.int .i64 (IntKind.wrap .i64 (v5 + 1))))]) (L' := [(2, 25, [.val (.int .i64 b2.f_Kind), .str b2.f_Text, .recs (α := List UInt8) [] E_string b2.f_Keys, .tree (α := S_api_Node) (S_api_Node.mk 0 [] [] []) pre_S_api_Node kids_S_api_Node b2.f_Kids]), (3, 25, [.val (.int .i64 b3.f_Kind), .str b3.f_Text, .recs (α := List UInt8) [] E_string b3.f_Keys, .tree (α := S_api_Node) (S_api_Node.mk 0 [] [] []) pre_S_api_Node kids_S_api_Node b3.f_Kids])]) (ob := []) (by kernel_rfl) AllP.nil ?_
        refine To.keep (kk := [2, 3, 5]) (kl := [2, 3]) (K' := [(2, .own 2 0), (3, .own 3 0), (5, .val (.int .i64 (IntKind.wrap .i64 (v5 + 1))))]) (L' := [(2, 25, [.val (.int .i64 b2.f_Kind), .str b2.f_Text, .recs (α := List UInt8) [] E_string b2.f_Keys, .tree (α := S_api_Node) (S_api_Node.mk 0 [] [] []) pre_S_api_Node kids_S_api_Node b2.f_Kids]), (3, 25, [.val (.int .i64 b3.f_Kind), .str b3.f_Text, .recs (α := List UInt8) [] E_string b3.f_Keys, .tree (α := S_api_Node) (S_api_Node.mk 0 [] [] []) pre_S_api_Node kids_S_api_Node b3.f_Kids])]) (by kernel_rfl) (by kernel_rfl) ?_
        refine To.again ?_
        exact ih (IntKind.wrap .i64 (v5 + 1)) _ h hQ
    · replace h := if_f hb h
      refine Wp.exit ?_
      refine To.thenX ?_
      refine To.thenX ?_
      refine To.keep (kk := []) (kl := []) (K' := []) (L' := []) (by kernel_rfl) (by kernel_rfl) ?_
      cases h
      exact hQ
def ref08_Same_b (R_ref08_Same : S_api_Node → S_api_Node → Option (Bool)) (n : Nat) (a0 : S_api_Node) (a1 : S_api_Node) : Option (Bool) :=
  ((if ((bif (a0.f_Kind != a1.f_Kind) then true else (!(a0.f_Text == a1.f_Text))) == false) = true then ref02_Same n a0.f_Keys a1.f_Keys else some false)).bind fun r1 =>
  lett ((bif (bif (bif (a0.f_Kind != a1.f_Kind) then true else (!(a0.f_Text == a1.f_Text))) then true else (!r1)) then true else ((List.length a0.f_Kids : Int) != (List.length a1.f_Kids : Int))) : Bool) fun x2 =>
  if x2 = true then some false
  else ((ref08_Same_l1 R_ref08_Same n a0 a1 n 0).bind fun o3 =>
  (Sum.elim (fun o3 => some true) (fun o3 => some o3)) o3)
theorem ok_ref08_Same_b (R_ref08_Same : S_api_Node → S_api_Node → Option (Bool)) (hR_ref08_Same : ∀ (a0 : S_api_Node) (a1 : S_api_Node) (r : Bool), R_ref08_Same a0 a1 = some r → CallsX Try.prog 11 [.agg [.val (.int .i64 a0.f_Kind), .str a0.f_Text, .recs (α := List UInt8) [] E_string a0.f_Keys, .tree (α := S_api_Node) (S_api_Node.mk 0 [] [] []) pre_S_api_Node kids_S_api_Node a0.f_Kids], .agg [.val (.int .i64 a1.f_Kind), .str a1.f_Text, .recs (α := List UInt8) [] E_string a1.f_Keys, .tree (α := S_api_Node) (S_api_Node.mk 0 [] [] []) pre_S_api_Node kids_S_api_Node a1.f_Kids]] (.val (.bool r))) (n : Nat) (a0 : S_api_Node) (a1 : S_api_Node) (r : Bool) (h : ref08_Same_b R_ref08_Same n a0 a1 = some r) : CallsX Try.prog 11 [.agg [.val (.int .i64 a0.f_Kind), .str a0.f_Text, .recs (α := List UInt8) [] E_string a0.f_Keys, .tree (α := S_api_Node) (S_api_Node.mk 0 [] [] []) pre_S_api_Node kids_S_api_Node a0.f_Kids], .agg [.val (.int .i64 a1.f_Kind), .str a1.f_Text, .recs (α := List UInt8) [] E_string a1.f_Keys, .tree (α := S_api_Node) (S_api_Node.mk 0 [] [] []) pre_S_api_Node kids_S_api_Node a1.f_Kids]] (.val (.bool r)) := by
  unfold ref08_Same_b at h
  refine callsX_of (fn := Try.f11) (by kernel_rfl) rfl (by kernel_rfl) (Nat.le_of_ble_eq_true (by kernel_rfl)) fun F0 w0 _ => ?_
  refine Wp.keep (kk := [0, 1]) (kl := []) (K' := [(0, .agg [.val (.int .i64 a0.f_Kind), .str a0.f_Text, .recs (α := List UInt8) [] E_string a0.f_Keys, .tree (α := S_api_Node) (S_api_Node.mk 0 [] [] []) pre_S_api_Node kids_S_api_Node a0.f_Kids]), (1, .agg [.val (.int .i64 a1.f_Kind), .str a1.f_Text, .recs (α := List UInt8) [] E_string a1.f_Keys, .tree (α := S_api_Node) (S_api_Node.mk 0 [] [] []) pre_S_api_Node kids_S_api_Node a1.f_Kids])]) (L' := []) (by kernel_rfl) (by kernel_rfl) ?_
  refine Wp.seq ?_
  refine Wp.region hΓ [] [] [] [2, 3] [2, 3] (K' := [(2, .own 2 0), (3, .own 3 0)]) (L' := [(2, 25, [.val (.int .i64 a0.f_Kind), .str a0.f_Text, .recs (α := List UInt8) [] E_string a0.f_Keys, .tree (α := S_api_Node) (S_api_Node.mk 0 [] [] []) pre_S_api_Node kids_S_api_Node a0.f_Kids]), (3, 25, [.val (.int .i64 a1.f_Kind), .str a1.f_Text, .recs (α := List UInt8) [] E_string a1.f_Keys, .tree (α := S_api_Node) (S_api_Node.mk 0 [] [] []) pre_S_api_Node kids_S_api_Node a1.f_Kids])]) (ob := []) (by kernel_rfl) AllP.nil ?_
  refine To.thenN ?_
  refine Wp.seq ?_
  refine Wp.seq ?_
  obtain ⟨r1, hr1, h⟩ := bind_of h
  obtain ⟨x2, hx2, h⟩ := lett_of h
  refine Wp.region hΓ [] [(17, .val (.bool r1))] [] [2, 3, 34] [2, 3] (K' := [(2, .own 2 0), (3, .own 3 0), (34, .val (.bool (bif (bif (bif (a0.f_Kind != a1.f_Kind) then true else (!(a0.f_Text == a1.f_Text))) then true else (!r1)) then true else ((List.length a0.f_Kids : Int) != (List.length a1.f_Kids : Int)))))]) (L' := [(2, 25, [.val (.int .i64 a0.f_Kind), .str a0.f_Text, .recs (α := List UInt8) [] E_string a0.f_Keys, .tree (α := S_api_Node) (S_api_Node.mk 0 [] [] []) pre_S_api_Node kids_S_api_Node a0.f_Kids]), (3, 25, [.val (.int .i64 a1.f_Kind), .str a1.f_Text, .recs (α := List UInt8) [] E_string a1.f_Keys, .tree (α := S_api_Node) (S_api_Node.mk 0 [] [] []) pre_S_api_Node kids_S_api_Node a1.f_Kids])]) (ob := [(((bif (a0.f_Kind != a1.f_Kind) then true else (!(a0.f_Text == a1.f_Text))) == false) = true → CX Try.prog 34 [.recs (α := List UInt8) [] E_string a0.f_Keys, .recs (α := List UInt8) [] E_string a1.f_Keys] (.val (.bool r1)))]) (by kernel_rfl) (AllP.cons (fun hg => cx (ok_ref02_Same n a0.f_Keys a1.f_Keys _ (if_t hg hr1))) AllP.nil) ?_
  refine To.eq (K' := [(2, .own 2 0), (3, .own 3 0), (34, .val (.bool x2))]) (L' := [(2, 25, [.val (.int .i64 a0.f_Kind), .str a0.f_Text, .recs (α := List UInt8) [] E_string a0.f_Keys, .tree (α := S_api_Node) (S_api_Node.mk 0 [] [] []) pre_S_api_Node kids_S_api_Node a0.f_Kids]), (3, 25, [.val (.int .i64 a1.f_Kind), .str a1.f_Text, .recs (α := List UInt8) [] E_string a1.f_Keys, .tree (α := S_api_Node) (S_api_Node.mk 0 [] [] []) pre_S_api_Node kids_S_api_Node a1.f_Kids])]) (by cases hx2; rfl) (by cases hx2; rfl) ?_
  refine To.thenN ?_
  refine Wp.cond (b := x2) (by kernel_rfl) (fun hb => ?_) (fun hb => ?_)
  · replace h := if_t hb h
    refine Wp.seq ?_
    refine Wp.region hΓ [] [] [] [4] [] (K' := [(4, .val (.bool false))]) (L' := []) (ob := []) (by kernel_rfl) AllP.nil ?_
    refine To.thenN ?_
    refine Wp.ret ?_
    refine To.thenR ?_
    refine To.keep (kk := [4]) (kl := []) (K' := [(4, .val (.bool false))]) (L' := []) (by kernel_rfl) (by kernel_rfl) ?_
    cases h
    exact To.done hΓ (by kernel_rfl)
  · replace h := if_f hb h
    refine Wp.skip ?_
    refine To.thenN ?_
    refine Wp.seq ?_
    refine Wp.seq ?_
    refine Wp.region hΓ [] [] [] [2, 3, 5] [2, 3] (K' := [(2, .own 2 0), (3, .own 3 0), (5, .val (.int .i64 0))]) (L' := [(2, 25, [.val (.int .i64 a0.f_Kind), .str a0.f_Text, .recs (α := List UInt8) [] E_string a0.f_Keys, .tree (α := S_api_Node) (S_api_Node.mk 0 [] [] []) pre_S_api_Node kids_S_api_Node a0.f_Kids]), (3, 25, [.val (.int .i64 a1.f_Kind), .str a1.f_Text, .recs (α := List UInt8) [] E_string a1.f_Keys, .tree (α := S_api_Node) (S_api_Node.mk 0 [] [] []) pre_S_api_Node kids_S_api_Node a1.f_Kids])]) (ob := []) (by kernel_rfl) AllP.nil ?_
    refine To.thenN ?_
    refine Wp.block ?_
    obtain ⟨o3, ho3, h⟩ := bind_of h
    refine Wp.keep (kk := [2, 3, 5]) (kl := [2, 3]) (K' := [(2, .own 2 0), (3, .own 3 0), (5, .val (.int .i64 0))]) (L' := [(2, 25, [.val (.int .i64 a0.f_Kind), .str a0.f_Text, .recs (α := List UInt8) [] E_string a0.f_Keys, .tree (α := S_api_Node) (S_api_Node.mk 0 [] [] []) pre_S_api_Node kids_S_api_Node a0.f_Kids]), (3, 25, [.val (.int .i64 a1.f_Kind), .str a1.f_Text, .recs (α := List UInt8) [] E_string a1.f_Keys, .tree (α := S_api_Node) (S_api_Node.mk 0 [] [] []) pre_S_api_Node kids_S_api_Node a1.f_Kids])]) (by kernel_rfl) (by kernel_rfl) ?_
    refine Wp.loopL ?_
    refine ok_ref08_Same_l1 R_ref08_Same hR_ref08_Same n a0 a1 n 0 o3 ho3 ?_
    rcases o3 with o3 | o3
    · replace h := sum_l h
      refine To.blockX ?_
      refine To.thenN ?_
      refine Wp.seq ?_
      refine Wp.region hΓ [] [] [] [4] [] (K' := [(4, .val (.bool true))]) (L' := []) (ob := []) (by kernel_rfl) AllP.nil ?_
      refine To.thenN ?_
      refine Wp.ret ?_
      refine To.keep (kk := [4]) (kl := []) (K' := [(4, .val (.bool true))]) (L' := []) (by kernel_rfl) (by kernel_rfl) ?_
      cases h
      exact To.done hΓ (by kernel_rfl)
    · replace h := sum_r h
      refine To.blockR ?_
      refine To.thenR ?_
      refine To.keep (kk := [4]) (kl := []) (K' := [(4, .val (.bool o3))]) (L' := []) (by kernel_rfl) (by kernel_rfl) ?_
      cases h
      exact To.done hΓ (by kernel_rfl)
def ref08_Same : Nat → S_api_Node → S_api_Node → Option (Bool)
  | 0 => fun _ _ => none
  | n + 1 => ref08_Same_b (ref08_Same n) n
theorem ok_ref08_Same (n : Nat) : ∀ (a0 : S_api_Node) (a1 : S_api_Node) (r : Bool), ref08_Same n a0 a1 = some r → CallsX Try.prog 11 [.agg [.val (.int .i64 a0.f_Kind), .str a0.f_Text, .recs (α := List UInt8) [] E_string a0.f_Keys, .tree (α := S_api_Node) (S_api_Node.mk 0 [] [] []) pre_S_api_Node kids_S_api_Node a0.f_Kids], .agg [.val (.int .i64 a1.f_Kind), .str a1.f_Text, .recs (α := List UInt8) [] E_string a1.f_Keys, .tree (α := S_api_Node) (S_api_Node.mk 0 [] [] []) pre_S_api_Node kids_S_api_Node a1.f_Kids]] (.val (.bool r)) := by
  induction n with
  | zero => intro a0 a1 r h; cases h
  | succ n ih => exact fun a0 a1 r h => ok_ref08_Same_b (ref08_Same n) ih n a0 a1 r h
def ref08_Count_l1 (R_ref08_Count : S_api_Node → Option (Int)) (n : Nat) (b1 : S_api_Node) : Nat → Int → Int → Option (Int)
  | 0, _, _ => none
  | k + 1, v3, v4 => if (decide (v4 < (List.length b1.f_Kids : Int))) = true then (if (decide (0 ≤ v4 ∧ v4 < (List.length b1.f_Kids : Int))) = true then ((R_ref08_Count (S_api_Node.mk (((b1.f_Kids)[Int.toNat v4]?.getD (S_api_Node.mk 0 [] [] [])).f_Kind) (((b1.f_Kids)[Int.toNat v4]?.getD (S_api_Node.mk 0 [] [] [])).f_Text) (((b1.f_Kids)[Int.toNat v4]?.getD (S_api_Node.mk 0 [] [] [])).f_Keys) (((b1.f_Kids)[Int.toNat v4]?.getD (S_api_Node.mk 0 [] [] [])).f_Kids))).bind fun r1 =>
  ref08_Count_l1 R_ref08_Count n b1 k (IntKind.wrap .i64 (v3 + r1)) (IntKind.wrap .i64 (v4 + 1))) else none)
  else some v3
theorem ok_ref08_Count_l1 (R_ref08_Count : S_api_Node → Option (Int)) (hR_ref08_Count : ∀ (a0 : S_api_Node) (r : Int), R_ref08_Count a0 = some r → CallsX Try.prog 12 [.agg [.val (.int .i64 a0.f_Kind), .str a0.f_Text, .recs (α := List UInt8) [] E_string a0.f_Keys, .tree (α := S_api_Node) (S_api_Node.mk 0 [] [] []) pre_S_api_Node kids_S_api_Node a0.f_Kids]] (.val (.int .i64 r))) (n : Nat) (b1 : S_api_Node) {F0 : Fz} {w0 : Pt Try.prog} {Q : Exit → Act → World → Prop} (k : Nat) : ∀ (v3 : Int) (v4 : Int) (o : Int), ref08_Count_l1 R_ref08_Count n b1 k v3 v4 = some o → To 21 F0 w0 [(3, .val (.int .i64 o))] [] (.exit 0) Q → WL Try.prog 21 F0 w0 [(1, .own 1 0), (3, .val (.int .i64 v3)), (4, .val (.int .i64 v4))] [(1, 25, [.val (.int .i64 b1.f_Kind), .str b1.f_Text, .recs (α := List UInt8) [] E_string b1.f_Keys, .tree (α := S_api_Node) (S_api_Node.mk 0 [] [] []) pre_S_api_Node kids_S_api_Node b1.f_Kids])] (cI (cI (cB (cA (cB (cB (cF Try.f12))))))) Q := by
  induction k with
  | zero => intro v3 v4 o h; cases h
  | succ k ih =>
    intro v3 v4 o h hQ
    rw [ref08_Count_l1] at h
    refine WL.round ?_
    refine Wp.seq ?_
    refine Wp.seq ?_
    refine Wp.region hΓ [] [] [] [1, 3, 4, 9] [1] (K' := [(1, .own 1 0), (3, .val (.int .i64 v3)), (4, .val (.int .i64 v4)), (9, .val (.bool (decide (v4 < (List.length b1.f_Kids : Int)))))]) (L' := [(1, 25, [.val (.int .i64 b1.f_Kind), .str b1.f_Text, .recs (α := List UInt8) [] E_string b1.f_Keys, .tree (α := S_api_Node) (S_api_Node.mk 0 [] [] []) pre_S_api_Node kids_S_api_Node b1.f_Kids])]) (ob := []) (by kernel_rfl) AllP.nil ?_
    refine To.thenN ?_
    refine Wp.cond (b := (decide (v4 < (List.length b1.f_Kids : Int)))) (by kernel_rfl) (fun hb => ?_) (fun hb => ?_)
    · replace h := if_t hb h
      refine Wp.skip ?_
      refine To.thenN ?_
      refine Wp.seq ?_
      refine Wp.block ?_
      obtain ⟨hc2, h⟩ := chk_of h
      obtain ⟨r1, hr1, h⟩ := bind_of h
      refine Wp.region hΓ [] [(6, .val (.int .i64 r1))] [] [1, 3, 4] [1] (K' := [(1, .own 1 0), (3, .val (.int .i64 (IntKind.wrap .i64 (v3 + r1)))), (4, .val (.int .i64 v4))]) (L' := [(1, 25, [.val (.int .i64 b1.f_Kind), .str b1.f_Text, .recs (α := List UInt8) [] E_string b1.f_Keys, .tree (α := S_api_Node) (S_api_Node.mk 0 [] [] []) pre_S_api_Node kids_S_api_Node b1.f_Kids])]) (ob := [(decide (0 ≤ v4 ∧ v4 < (List.length b1.f_Kids : Int))) = true, (true = true → CX Try.prog 12 [.agg [.val (.int .i64 (((b1.f_Kids)[Int.toNat v4]?.getD (S_api_Node.mk 0 [] [] [])).f_Kind)), .str (((b1.f_Kids)[Int.toNat v4]?.getD (S_api_Node.mk 0 [] [] [])).f_Text), .recs (α := List UInt8) [] E_string (((b1.f_Kids)[Int.toNat v4]?.getD (S_api_Node.mk 0 [] [] [])).f_Keys), .tree (α := S_api_Node) (S_api_Node.mk 0 [] [] []) pre_S_api_Node kids_S_api_Node (((b1.f_Kids)[Int.toNat v4]?.getD (S_api_Node.mk 0 [] [] [])).f_Kids)]] (.val (.int .i64 r1)))]) (by kernel_rfl) (AllP.cons hc2 (AllP.cons (fun _ => cx (hR_ref08_Count (S_api_Node.mk (((b1.f_Kids)[Int.toNat v4]?.getD (S_api_Node.mk 0 [] [] [])).f_Kind) (((b1.f_Kids)[Int.toNat v4]?.getD (S_api_Node.mk 0 [] [] [])).f_Text) (((b1.f_Kids)[Int.toNat v4]?.getD (S_api_Node.mk 0 [] [] [])).f_Keys) (((b1.f_Kids)[Int.toNat v4]?.getD (S_api_Node.mk 0 [] [] [])).f_Kids)) _ hr1)) AllP.nil)) ?_
      refine To.blockN ?_
      refine To.thenN ?_
      refine Wp.region hΓ [] [] [] [1, 3, 4] [1] (K' := [(1, .own 1 0), (3, .val (.int .i64 (IntKind.wrap .i64 (v3 + r1)))), (4, .val (.int .i64 (IntKind.wrap .i64 (v4 + 1))))]) (L' := [(1, 25, [.val (.int .i64 b1.f_Kind), .str b1.f_Text, .recs (α := List UInt8) [] E_string b1.f_Keys, .tree (α := S_api_Node) (S_api_Node.mk 0 [] [] []) pre_S_api_Node kids_S_api_Node b1.f_Kids])]) (ob := []) (by kernel_rfl) AllP.nil ?_
      refine To.keep (kk := [1, 3, 4]) (kl := [1]) (K' := [(1, .own 1 0), (3, .val (.int .i64 (IntKind.wrap .i64 (v3 + r1)))), (4, .val (.int .i64 (IntKind.wrap .i64 (v4 + 1))))]) (L' := [(1, 25, [.val (.int .i64 b1.f_Kind), .str b1.f_Text, .recs (α := List UInt8) [] E_string b1.f_Keys, .tree (α := S_api_Node) (S_api_Node.mk 0 [] [] []) pre_S_api_Node kids_S_api_Node b1.f_Kids])]) (by kernel_rfl) (by kernel_rfl) ?_
      refine To.again ?_
      exact ih (IntKind.wrap .i64 (v3 + r1)) (IntKind.wrap .i64 (v4 + 1)) _ h hQ
    · replace h := if_f hb h
      refine Wp.exit ?_
      refine To.thenX ?_
      refine To.thenX ?_
      refine To.keep (kk := [3]) (kl := []) (K' := [(3, .val (.int .i64 v3))]) (L' := []) (by kernel_rfl) (by kernel_rfl) ?_
      cases h
      exact hQ
def ref08_Count_b (R_ref08_Count : S_api_Node → Option (Int)) (n : Nat) (a0 : S_api_Node) : Option (Int) :=
  (ref08_Count_l1 R_ref08_Count n a0 n 1 0).bind fun o1 =>
  some o1
theorem ok_ref08_Count_b (R_ref08_Count : S_api_Node → Option (Int)) (hR_ref08_Count : ∀ (a0 : S_api_Node) (r : Int), R_ref08_Count a0 = some r → CallsX Try.prog 12 [.agg [.val (.int .i64 a0.f_Kind), .str a0.f_Text, .recs (α := List UInt8) [] E_string a0.f_Keys, .tree (α := S_api_Node) (S_api_Node.mk 0 [] [] []) pre_S_api_Node kids_S_api_Node a0.f_Kids]] (.val (.int .i64 r))) (n : Nat) (a0 : S_api_Node) (r : Int) (h : ref08_Count_b R_ref08_Count n a0 = some r) : CallsX Try.prog 12 [.agg [.val (.int .i64 a0.f_Kind), .str a0.f_Text, .recs (α := List UInt8) [] E_string a0.f_Keys, .tree (α := S_api_Node) (S_api_Node.mk 0 [] [] []) pre_S_api_Node kids_S_api_Node a0.f_Kids]] (.val (.int .i64 r)) := by
  unfold ref08_Count_b at h
  refine callsX_of (fn := Try.f12) (by kernel_rfl) rfl (by kernel_rfl) (Nat.le_of_ble_eq_true (by kernel_rfl)) fun F0 w0 _ => ?_
  refine Wp.keep (kk := [0]) (kl := []) (K' := [(0, .agg [.val (.int .i64 a0.f_Kind), .str a0.f_Text, .recs (α := List UInt8) [] E_string a0.f_Keys, .tree (α := S_api_Node) (S_api_Node.mk 0 [] [] []) pre_S_api_Node kids_S_api_Node a0.f_Kids])]) (L' := []) (by kernel_rfl) (by kernel_rfl) ?_
  refine Wp.seq ?_
  refine Wp.region hΓ [] [] [] [1] [1] (K' := [(1, .own 1 0)]) (L' := [(1, 25, [.val (.int .i64 a0.f_Kind), .str a0.f_Text, .recs (α := List UInt8) [] E_string a0.f_Keys, .tree (α := S_api_Node) (S_api_Node.mk 0 [] [] []) pre_S_api_Node kids_S_api_Node a0.f_Kids])]) (ob := []) (by kernel_rfl) AllP.nil ?_
  refine To.thenN ?_
  refine Wp.seq ?_
  refine Wp.region hΓ [] [] [] [1, 3] [1] (K' := [(1, .own 1 0), (3, .val (.int .i64 1))]) (L' := [(1, 25, [.val (.int .i64 a0.f_Kind), .str a0.f_Text, .recs (α := List UInt8) [] E_string a0.f_Keys, .tree (α := S_api_Node) (S_api_Node.mk 0 [] [] []) pre_S_api_Node kids_S_api_Node a0.f_Kids])]) (ob := []) (by kernel_rfl) AllP.nil ?_
  refine To.thenN ?_
  refine Wp.seq ?_
  refine Wp.seq ?_
  refine Wp.region hΓ [] [] [] [1, 3, 4] [1] (K' := [(1, .own 1 0), (3, .val (.int .i64 1)), (4, .val (.int .i64 0))]) (L' := [(1, 25, [.val (.int .i64 a0.f_Kind), .str a0.f_Text, .recs (α := List UInt8) [] E_string a0.f_Keys, .tree (α := S_api_Node) (S_api_Node.mk 0 [] [] []) pre_S_api_Node kids_S_api_Node a0.f_Kids])]) (ob := []) (by kernel_rfl) AllP.nil ?_
  refine To.thenN ?_
  refine Wp.block ?_
  obtain ⟨o1, ho1, h⟩ := bind_of h
  refine Wp.keep (kk := [1, 3, 4]) (kl := [1]) (K' := [(1, .own 1 0), (3, .val (.int .i64 1)), (4, .val (.int .i64 0))]) (L' := [(1, 25, [.val (.int .i64 a0.f_Kind), .str a0.f_Text, .recs (α := List UInt8) [] E_string a0.f_Keys, .tree (α := S_api_Node) (S_api_Node.mk 0 [] [] []) pre_S_api_Node kids_S_api_Node a0.f_Kids])]) (by kernel_rfl) (by kernel_rfl) ?_
  refine Wp.loopL ?_
  refine ok_ref08_Count_l1 R_ref08_Count hR_ref08_Count n a0 n 1 0 o1 ho1 ?_
  refine To.blockX ?_
  refine To.thenN ?_
  refine Wp.seq ?_
  refine Wp.region hΓ [] [] [] [2] [] (K' := [(2, .val (.int .i64 o1))]) (L' := []) (ob := []) (by kernel_rfl) AllP.nil ?_
  refine To.thenN ?_
  refine Wp.ret ?_
  refine To.keep (kk := [2]) (kl := []) (K' := [(2, .val (.int .i64 o1))]) (L' := []) (by kernel_rfl) (by kernel_rfl) ?_
  cases h
  exact To.done hΓ (by kernel_rfl)
def ref08_Count : Nat → S_api_Node → Option (Int)
  | 0 => fun _ => none
  | n + 1 => ref08_Count_b (ref08_Count n) n
theorem ok_ref08_Count (n : Nat) : ∀ (a0 : S_api_Node) (r : Int), ref08_Count n a0 = some r → CallsX Try.prog 12 [.agg [.val (.int .i64 a0.f_Kind), .str a0.f_Text, .recs (α := List UInt8) [] E_string a0.f_Keys, .tree (α := S_api_Node) (S_api_Node.mk 0 [] [] []) pre_S_api_Node kids_S_api_Node a0.f_Kids]] (.val (.int .i64 r)) := by
  induction n with
  | zero => intro a0 r h; cases h
  | succ n ih => exact fun a0 r h => ok_ref08_Count_b (ref08_Count n) ih n a0 r h
def slices_Equal_string_string_l1 (n : Nat) (v0 : List (List UInt8)) (v1 : List (List UInt8)) (v12 : Int) : Nat → Int → Option (Sum (Unit) (Bool))
  | 0, _ => none
  | k + 1, v13 => if (decide (v13 < v12)) = true then (if (decide (0 ≤ v13 ∧ v13 < (List.length v0 : Int))) = true then (if (decide (0 ≤ v13 ∧ v13 < (List.length v1 : Int))) = true then (if (!(((v0)[Int.toNat v13]?.getD []) == ((v1)[Int.toNat v13]?.getD []))) = true then (some (.inr false))
  else (slices_Equal_string_string_l1 n v0 v1 v12 k (IntKind.wrap .i64 (v13 + 1)))) else none) else none)
  else (some (.inl ()))
theorem ok_slices_Equal_string_string_l1 (n : Nat) (v0 : List (List UInt8)) (v1 : List (List UInt8)) (v12 : Int) {F0 : Fz} {w0 : Pt Try.prog} {Q : Exit → Act → World → Prop} (k : Nat) : ∀ (v13 : Int) (o : Sum (Unit) (Bool)), slices_Equal_string_string_l1 n v0 v1 v12 k v13 = some o → (Sum.elim (fun s => To 26 F0 w0 [] [] (.exit 0) Q) (fun s => To 26 F0 w0 [(4, .val (.bool s))] [] .ret Q)) o → WL Try.prog 26 F0 w0 [(0, .recs (α := List UInt8) [] E_string v0), (1, .recs (α := List UInt8) [] E_string v1), (12, .val (.int .i64 v12)), (13, .val (.int .i64 v13))] [] (cI (cI (cB (cA (cB (cB (cF Try.f38))))))) Q := by
  induction k with
  | zero => intro v13 o h; cases h
  | succ k ih =>
    intro v13 o h hQ
    rw [slices_Equal_string_string_l1] at h
    refine WL.round ?_
    refine Wp.seq ?_
    refine Wp.region hΓ [] [] [] [0, 1, 12, 13, 14] [] (K' := [(0, .recs (α := List UInt8) [] E_string v0), (1, .recs (α := List UInt8) [] E_string v1), (12, .val (.int .i64 v12)), (13, .val (.int .i64 v13)), (14, .val (.bool (decide (v13 < v12))))]) (L' := []) (ob := []) (by kernel_rfl) AllP.nil ?_
    refine To.thenN ?_
    refine Wp.seq ?_
    refine Wp.cond (b := (decide (v13 < v12))) (by kernel_rfl) (fun hb => ?_) (fun hb => ?_)
    · replace h := if_t hb h
      refine Wp.skip ?_
      refine To.thenN ?_
      refine Wp.seq ?_
      refine Wp.block ?_
      refine Wp.seq ?_
      refine Wp.region hΓ [] [] [] [0, 1, 5, 12, 13] [] (K' := [(0, .recs (α := List UInt8) [] E_string v0), (1, .recs (α := List UInt8) [] E_string v1), (5, .val (.int .i64 v13)), (12, .val (.int .i64 v12)), (13, .val (.int .i64 v13))]) (L' := []) (ob := []) (by kernel_rfl) AllP.nil ?_
      refine To.thenN ?_
      refine Wp.seq ?_
      obtain ⟨hc1, h⟩ := chk_of h
      obtain ⟨hc2, h⟩ := chk_of h
      refine Wp.regionD hm hΓ [] [0, 1, 12, 13, 24] [] (K' := [(0, .recs (α := List UInt8) [] E_string v0), (1, .recs (α := List UInt8) [] E_string v1), (12, .val (.int .i64 v12)), (13, .val (.int .i64 v13)), (24, .val (.bool (!(((v0)[Int.toNat v13]?.getD []) == ((v1)[Int.toNat v13]?.getD [])))))]) (L' := []) (ob := [(decide (0 ≤ v13 ∧ v13 < (List.length v0 : Int))) = true, (decide (0 ≤ v13 ∧ v13 < (List.length v1 : Int))) = true]) (by kernel_rfl) (AllP.cons hc1 (AllP.cons hc2 AllP.nil)) ?_
      refine To.thenN ?_
      refine Wp.cond (b := (!(((v0)[Int.toNat v13]?.getD []) == ((v1)[Int.toNat v13]?.getD [])))) (by kernel_rfl) (fun hb => ?_) (fun hb => ?_)
      · replace h := if_t hb h
        refine Wp.seq ?_
        refine Wp.region hΓ [] [] [] [4] [] (K' := [(4, .val (.bool false))]) (L' := []) (ob := []) (by kernel_rfl) AllP.nil ?_
        refine To.thenN ?_
        refine Wp.ret ?_
        refine To.blockR ?_
        refine To.thenR ?_
        refine To.thenR ?_
        refine To.keep (kk := [4]) (kl := []) (K' := [(4, .val (.bool false))]) (L' := []) (by kernel_rfl) (by kernel_rfl) ?_
        cases h
        exact hQ
      · replace h := if_f hb h
        refine Wp.skip ?_
        refine To.blockN ?_
        refine To.thenN ?_
        refine Wp.region hΓ [] [] [] [0, 1, 12, 13] [] (K' := [(0, .recs (α := List UInt8) [] E_string v0), (1, .recs (α := List UInt8) [] E_string v1), (12, .val (.int .i64 v12)), (13, .val (.int .i64 (IntKind.wrap .i64 (v13 + 1))))]) (L' := []) (ob := []) (by kernel_rfl) AllP.nil ?_
        refine To.keep (kk := [0, 1, 12, 13]) (kl := []) (K' := [(0, .recs (α := List UInt8) [] E_string v0), (1, .recs (α := List UInt8) [] E_string v1), (12, .val (.int .i64 v12)), (13, .val (.int .i64 (IntKind.wrap .i64 (v13 + 1))))]) (L' := []) (by kernel_rfl) (by kernel_rfl) ?_
        refine To.again ?_
        exact ih (IntKind.wrap .i64 (v13 + 1)) _ h hQ
    · replace h := if_f hb h
      refine Wp.exit ?_
      refine To.thenX ?_
      refine To.thenX ?_
      refine To.keep (kk := []) (kl := []) (K' := []) (L' := []) (by kernel_rfl) (by kernel_rfl) ?_
      cases h
      exact hQ
def slices_Equal_string_string (n : Nat) (a0 : List (List UInt8)) (a1 : List (List UInt8)) : Option (Bool) :=
  if ((List.length a0 : Int) != (List.length a1 : Int)) = true then some false
  else ((slices_Equal_string_string_l1 n a0 a1 (List.length a0 : Int) n 0).bind fun o1 =>
  (Sum.elim (fun o1 => some true) (fun o1 => some o1)) o1)
theorem ok_slices_Equal_string_string (n : Nat) (a0 : List (List UInt8)) (a1 : List (List UInt8)) (r : Bool) (h : slices_Equal_string_string n a0 a1 = some r) : CallsX Try.prog 38 [.recs (α := List UInt8) [] E_string a0, .recs (α := List UInt8) [] E_string a1] (.val (.bool r)) := by
  unfold slices_Equal_string_string at h
  refine callsX_of (fn := Try.f38) (by kernel_rfl) rfl (by kernel_rfl) (Nat.le_of_ble_eq_true (by kernel_rfl)) fun F0 w0 _ => ?_
  refine Wp.keep (kk := [0, 1]) (kl := []) (K' := [(0, .recs (α := List UInt8) [] E_string a0), (1, .recs (α := List UInt8) [] E_string a1)]) (L' := []) (by kernel_rfl) (by kernel_rfl) ?_
  refine Wp.seq ?_
  refine Wp.region hΓ [] [] [] [0, 1] [] (K' := [(0, .recs (α := List UInt8) [] E_string a0), (1, .recs (α := List UInt8) [] E_string a1)]) (L' := []) (ob := []) (by kernel_rfl) AllP.nil ?_
  refine To.thenN ?_
  refine Wp.seq ?_
  refine Wp.seq ?_
  refine Wp.region hΓ [] [] [] [0, 1, 10] [] (K' := [(0, .recs (α := List UInt8) [] E_string a0), (1, .recs (α := List UInt8) [] E_string a1), (10, .val (.bool ((List.length a0 : Int) != (List.length a1 : Int))))]) (L' := []) (ob := []) (by kernel_rfl) AllP.nil ?_
  refine To.thenN ?_
  refine Wp.cond (b := ((List.length a0 : Int) != (List.length a1 : Int))) (by kernel_rfl) (fun hb => ?_) (fun hb => ?_)
  · replace h := if_t hb h
    refine Wp.seq ?_
    refine Wp.region hΓ [] [] [] [4] [] (K' := [(4, .val (.bool false))]) (L' := []) (ob := []) (by kernel_rfl) AllP.nil ?_
    refine To.thenN ?_
    refine Wp.ret ?_
    refine To.thenR ?_
    refine To.keep (kk := [4]) (kl := []) (K' := [(4, .val (.bool false))]) (L' := []) (by kernel_rfl) (by kernel_rfl) ?_
    cases h
    exact To.done hΓ (by kernel_rfl)
  · replace h := if_f hb h
    refine Wp.skip ?_
    refine To.thenN ?_
    refine Wp.seq ?_
    refine Wp.seq ?_
    refine Wp.region hΓ [] [] [] [0, 1, 12, 13] [] (K' := [(0, .recs (α := List UInt8) [] E_string a0), (1, .recs (α := List UInt8) [] E_string a1), (12, .val (.int .i64 (List.length a0 : Int))), (13, .val (.int .i64 0))]) (L' := []) (ob := []) (by kernel_rfl) AllP.nil ?_
    refine To.thenN ?_
    refine Wp.block ?_
    obtain ⟨o1, ho1, h⟩ := bind_of h
    refine Wp.keep (kk := [0, 1, 12, 13]) (kl := []) (K' := [(0, .recs (α := List UInt8) [] E_string a0), (1, .recs (α := List UInt8) [] E_string a1), (12, .val (.int .i64 (List.length a0 : Int))), (13, .val (.int .i64 0))]) (L' := []) (by kernel_rfl) (by kernel_rfl) ?_
    refine Wp.loopL ?_
    refine ok_slices_Equal_string_string_l1 n a0 a1 (List.length a0 : Int) n 0 o1 ho1 ?_
    rcases o1 with o1 | o1
    · replace h := sum_l h
      refine To.blockX ?_
      refine To.thenN ?_
      refine Wp.seq ?_
      refine Wp.region hΓ [] [] [] [4] [] (K' := [(4, .val (.bool true))]) (L' := []) (ob := []) (by kernel_rfl) AllP.nil ?_
      refine To.thenN ?_
      refine Wp.ret ?_
      refine To.keep (kk := [4]) (kl := []) (K' := [(4, .val (.bool true))]) (L' := []) (by kernel_rfl) (by kernel_rfl) ?_
      cases h
      exact To.done hΓ (by kernel_rfl)
    · replace h := sum_r h
      refine To.blockR ?_
      refine To.thenR ?_
      refine To.keep (kk := [4]) (kl := []) (K' := [(4, .val (.bool o1))]) (L' := []) (by kernel_rfl) (by kernel_rfl) ?_
      cases h
      exact To.done hΓ (by kernel_rfl)
def slices_EqualFunc_api_Node_api_Node_api_Node_api_Node__node_Same_l1 (R_node_Same : S_api_Node → S_api_Node → Option (Bool)) (n : Nat) (v1 : List (S_api_Node)) (v15 : List (S_api_Node)) (v16 : Int) : Nat → Int → Option (Sum (Unit) (Bool))
  | 0, _ => none
  | k + 1, v17 => if (decide (v17 < v16)) = true then (if (decide (0 ≤ v17 ∧ v17 < (List.length v15 : Int))) = true then (if (decide (0 ≤ v17 ∧ v17 < (List.length v1 : Int))) = true then ((R_node_Same (S_api_Node.mk (((v15)[Int.toNat v17]?.getD (S_api_Node.mk 0 [] [] [])).f_Kind) (((v15)[Int.toNat v17]?.getD (S_api_Node.mk 0 [] [] [])).f_Text) (((v15)[Int.toNat v17]?.getD (S_api_Node.mk 0 [] [] [])).f_Keys) (((v15)[Int.toNat v17]?.getD (S_api_Node.mk 0 [] [] [])).f_Kids)) (S_api_Node.mk (((v1)[Int.toNat v17]?.getD (S_api_Node.mk 0 [] [] [])).f_Kind) (((v1)[Int.toNat v17]?.getD (S_api_Node.mk 0 [] [] [])).f_Text) (((v1)[Int.toNat v17]?.getD (S_api_Node.mk 0 [] [] [])).f_Keys) (((v1)[Int.toNat v17]?.getD (S_api_Node.mk 0 [] [] [])).f_Kids))).bind fun r1 =>
  if (!r1) = true then (some (.inr false))
  else (slices_EqualFunc_api_Node_api_Node_api_Node_api_Node__node_Same_l1 R_node_Same n v1 v15 v16 k (IntKind.wrap .i64 (v17 + 1)))) else none) else none)
  else (some (.inl ()))
theorem ok_slices_EqualFunc_api_Node_api_Node_api_Node_api_Node__node_Same_l1 (R_node_Same : S_api_Node → S_api_Node → Option (Bool)) (hR_node_Same : ∀ (a0 : S_api_Node) (a1 : S_api_Node) (r : Bool), R_node_Same a0 a1 = some r → CallsX Try.prog 16 [.agg [.val (.int .i64 a0.f_Kind), .str a0.f_Text, .recs (α := List UInt8) [] E_string a0.f_Keys, .tree (α := S_api_Node) (S_api_Node.mk 0 [] [] []) pre_S_api_Node kids_S_api_Node a0.f_Kids], .agg [.val (.int .i64 a1.f_Kind), .str a1.f_Text, .recs (α := List UInt8) [] E_string a1.f_Keys, .tree (α := S_api_Node) (S_api_Node.mk 0 [] [] []) pre_S_api_Node kids_S_api_Node a1.f_Kids]] (.val (.bool r))) (n : Nat) (v1 : List (S_api_Node)) (v15 : List (S_api_Node)) (v16 : Int) {F0 : Fz} {w0 : Pt Try.prog} {Q : Exit → Act → World → Prop} (k : Nat) : ∀ (v17 : Int) (o : Sum (Unit) (Bool)), slices_EqualFunc_api_Node_api_Node_api_Node_api_Node__node_Same_l1 R_node_Same n v1 v15 v16 k v17 = some o → (Sum.elim (fun s => To 32 F0 w0 [] [] (.exit 0) Q) (fun s => To 32 F0 w0 [(6, .val (.bool s))] [] .ret Q)) o → WL Try.prog 32 F0 w0 [(1, .recs (α := S_api_Node) (S_api_Node.mk 0 [] [] []) E_api_Node v1), (2, .fn 16 []), (15, .recs (α := S_api_Node) (S_api_Node.mk 0 [] [] []) E_api_Node v15), (16, .val (.int .i64 v16)), (17, .val (.int .i64 v17))] [] (cI (cI (cB (cA (cB (cB (cF Try.f39))))))) Q := by
  induction k with
  | zero => intro v17 o h; cases h
  | succ k ih =>
    intro v17 o h hQ
    rw [slices_EqualFunc_api_Node_api_Node_api_Node_api_Node__node_Same_l1] at h
    refine WL.round ?_
    refine Wp.seq ?_
    refine Wp.region hΓ [] [] [] [1, 2, 15, 16, 17, 18] [] (K' := [(1, .recs (α := S_api_Node) (S_api_Node.mk 0 [] [] []) E_api_Node v1), (2, .fn 16 []), (15, .recs (α := S_api_Node) (S_api_Node.mk 0 [] [] []) E_api_Node v15), (16, .val (.int .i64 v16)), (17, .val (.int .i64 v17)), (18, .val (.bool (decide (v17 < v16))))]) (L' := []) (ob := []) (by kernel_rfl) AllP.nil ?_
    refine To.thenN ?_
    refine Wp.seq ?_
    refine Wp.cond (b := (decide (v17 < v16))) (by kernel_rfl) (fun hb => ?_) (fun hb => ?_)
    · replace h := if_t hb h
      refine Wp.skip ?_
      refine To.thenN ?_
      refine Wp.seq ?_
      refine Wp.block ?_
      refine Wp.seq ?_
      obtain ⟨hc3, h⟩ := chk_of h
      refine Wp.region hΓ [] [] [] [1, 2, 7, 8, 15, 16, 17] [8] (K' := [(1, .recs (α := S_api_Node) (S_api_Node.mk 0 [] [] []) E_api_Node v1), (2, .fn 16 []), (7, .val (.int .i64 v17)), (8, .own 8 0), (15, .recs (α := S_api_Node) (S_api_Node.mk 0 [] [] []) E_api_Node v15), (16, .val (.int .i64 v16)), (17, .val (.int .i64 v17))]) (L' := [(8, 25, [.val (.int .i64 (((v15)[Int.toNat v17]?.getD (S_api_Node.mk 0 [] [] [])).f_Kind)), .str (((v15)[Int.toNat v17]?.getD (S_api_Node.mk 0 [] [] [])).f_Text), .recs (α := List UInt8) [] E_string (((v15)[Int.toNat v17]?.getD (S_api_Node.mk 0 [] [] [])).f_Keys), .tree (α := S_api_Node) (S_api_Node.mk 0 [] [] []) pre_S_api_Node kids_S_api_Node (((v15)[Int.toNat v17]?.getD (S_api_Node.mk 0 [] [] [])).f_Kids)])]) (ob := [(decide (0 ≤ v17 ∧ v17 < (List.length v15 : Int))) = true]) (by kernel_rfl) (AllP.cons hc3 AllP.nil) ?_
      refine To.thenN ?_
      refine Wp.seq ?_
      obtain ⟨hc2, h⟩ := chk_of h
      refine Wp.region hΓ [] [] [] [1, 2, 8, 9, 15, 16, 17] [8, 9] (K' := [(1, .recs (α := S_api_Node) (S_api_Node.mk 0 [] [] []) E_api_Node v1), (2, .fn 16 []), (8, .own 8 0), (9, .own 9 0), (15, .recs (α := S_api_Node) (S_api_Node.mk 0 [] [] []) E_api_Node v15), (16, .val (.int .i64 v16)), (17, .val (.int .i64 v17))]) (L' := [(8, 25, [.val (.int .i64 (((v15)[Int.toNat v17]?.getD (S_api_Node.mk 0 [] [] [])).f_Kind)), .str (((v15)[Int.toNat v17]?.getD (S_api_Node.mk 0 [] [] [])).f_Text), .recs (α := List UInt8) [] E_string (((v15)[Int.toNat v17]?.getD (S_api_Node.mk 0 [] [] [])).f_Keys), .tree (α := S_api_Node) (S_api_Node.mk 0 [] [] []) pre_S_api_Node kids_S_api_Node (((v15)[Int.toNat v17]?.getD (S_api_Node.mk 0 [] [] [])).f_Kids)]), (9, 25, [.val (.int .i64 (((v1)[Int.toNat v17]?.getD (S_api_Node.mk 0 [] [] [])).f_Kind)), .str (((v1)[Int.toNat v17]?.getD (S_api_Node.mk 0 [] [] [])).f_Text), .recs (α := List UInt8) [] E_string (((v1)[Int.toNat v17]?.getD (S_api_Node.mk 0 [] [] [])).f_Keys), .tree (α := S_api_Node) (S_api_Node.mk 0 [] [] []) pre_S_api_Node kids_S_api_Node (((v1)[Int.toNat v17]?.getD (S_api_Node.mk 0 [] [] [])).f_Kids)])]) (ob := [(decide (0 ≤ v17 ∧ v17 < (List.length v1 : Int))) = true]) (by kernel_rfl) (AllP.cons hc2 AllP.nil) ?_
      refine To.thenN ?_
      refine Wp.seq ?_
      obtain ⟨r1, hr1, h⟩ := bind_of h
      refine Wp.region hΓ [] [(3, .val (.bool r1))] [] [1, 2, 15, 16, 17, 30] [] (K' := [(1, .recs (α := S_api_Node) (S_api_Node.mk 0 [] [] []) E_api_Node v1), (2, .fn 16 []), (15, .recs (α := S_api_Node) (S_api_Node.mk 0 [] [] []) E_api_Node v15), (16, .val (.int .i64 v16)), (17, .val (.int .i64 v17)), (30, .val (.bool (!r1)))]) (L' := []) (ob := [(true = true → CX Try.prog 16 [.agg [.val (.int .i64 (((v15)[Int.toNat v17]?.getD (S_api_Node.mk 0 [] [] [])).f_Kind)), .str (((v15)[Int.toNat v17]?.getD (S_api_Node.mk 0 [] [] [])).f_Text), .recs (α := List UInt8) [] E_string (((v15)[Int.toNat v17]?.getD (S_api_Node.mk 0 [] [] [])).f_Keys), .tree (α := S_api_Node) (S_api_Node.mk 0 [] [] []) pre_S_api_Node kids_S_api_Node (((v15)[Int.toNat v17]?.getD (S_api_Node.mk 0 [] [] [])).f_Kids)], .agg [.val (.int .i64 (((v1)[Int.toNat v17]?.getD (S_api_Node.mk 0 [] [] [])).f_Kind)), .str (((v1)[Int.toNat v17]?.getD (S_api_Node.mk 0 [] [] [])).f_Text), .recs (α := List UInt8) [] E_string (((v1)[Int.toNat v17]?.getD (S_api_Node.mk 0 [] [] [])).f_Keys), .tree (α := S_api_Node) (S_api_Node.mk 0 [] [] []) pre_S_api_Node kids_S_api_Node (((v1)[Int.toNat v17]?.getD (S_api_Node.mk 0 [] [] [])).f_Kids)]] (.val (.bool r1)))]) (by kernel_rfl) (AllP.cons (fun _ => cx (hR_node_Same (S_api_Node.mk (((v15)[Int.toNat v17]?.getD (S_api_Node.mk 0 [] [] [])).f_Kind) (((v15)[Int.toNat v17]?.getD (S_api_Node.mk 0 [] [] [])).f_Text) (((v15)[Int.toNat v17]?.getD (S_api_Node.mk 0 [] [] [])).f_Keys) (((v15)[Int.toNat v17]?.getD (S_api_Node.mk 0 [] [] [])).f_Kids)) (S_api_Node.mk (((v1)[Int.toNat v17]?.getD (S_api_Node.mk 0 [] [] [])).f_Kind) (((v1)[Int.toNat v17]?.getD (S_api_Node.mk 0 [] [] [])).f_Text) (((v1)[Int.toNat v17]?.getD (S_api_Node.mk 0 [] [] [])).f_Keys) (((v1)[Int.toNat v17]?.getD (S_api_Node.mk 0 [] [] [])).f_Kids)) _ hr1)) AllP.nil) ?_
      refine To.thenN ?_
      refine Wp.cond (b := (!r1)) (by kernel_rfl) (fun hb => ?_) (fun hb => ?_)
      · replace h := if_t hb h
        refine Wp.seq ?_
        refine Wp.region hΓ [] [] [] [6] [] (K' := [(6, .val (.bool false))]) (L' := []) (ob := []) (by kernel_rfl) AllP.nil ?_
        refine To.thenN ?_
        refine Wp.ret ?_
        refine To.blockR ?_
        refine To.thenR ?_
        refine To.thenR ?_
        refine To.keep (kk := [6]) (kl := []) (K' := [(6, .val (.bool false))]) (L' := []) (by kernel_rfl) (by kernel_rfl) ?_
        cases h
        exact hQ
      · replace h := if_f hb h
        refine Wp.skip ?_
        refine To.blockN ?_
        refine To.thenN ?_
        refine Wp.region hΓ [] [] [] [1, 2, 15, 16, 17] [] (K' := [(1, .recs (α := S_api_Node) (S_api_Node.mk 0 [] [] []) E_api_Node v1), (2, .fn 16 []), (15, .recs (α := S_api_Node) (S_api_Node.mk 0 [] [] []) E_api_Node v15), (16, .val (.int .i64 v16)), (17, .val (.int .i64 (IntKind.wrap .i64 (v17 + 1))))]) (L' := []) (ob := []) (by kernel_rfl) AllP.nil ?_
        refine To.keep (kk := [1, 2, 15, 16, 17]) (kl := []) (K' := [(1, .recs (α := S_api_Node) (S_api_Node.mk 0 [] [] []) E_api_Node v1), (2, .fn 16 []), (15, .recs (α := S_api_Node) (S_api_Node.mk 0 [] [] []) E_api_Node v15), (16, .val (.int .i64 v16)), (17, .val (.int .i64 (IntKind.wrap .i64 (v17 + 1))))]) (L' := []) (by kernel_rfl) (by kernel_rfl) ?_
        refine To.again ?_
        exact ih (IntKind.wrap .i64 (v17 + 1)) _ h hQ
    · replace h := if_f hb h
      refine Wp.exit ?_
      refine To.thenX ?_
      refine To.thenX ?_
      refine To.keep (kk := []) (kl := []) (K' := []) (L' := []) (by kernel_rfl) (by kernel_rfl) ?_
      cases h
      exact hQ
def slices_EqualFunc_api_Node_api_Node_api_Node_api_Node__node_Same (R_node_Same : S_api_Node → S_api_Node → Option (Bool)) (n : Nat) (a0 : List (S_api_Node)) (a1 : List (S_api_Node)) : Option (Bool) :=
  if ((List.length a0 : Int) != (List.length a1 : Int)) = true then some false
  else ((slices_EqualFunc_api_Node_api_Node_api_Node_api_Node__node_Same_l1 R_node_Same n a1 a0 (List.length a0 : Int) n 0).bind fun o1 =>
  (Sum.elim (fun o1 => some true) (fun o1 => some o1)) o1)
theorem ok_slices_EqualFunc_api_Node_api_Node_api_Node_api_Node__node_Same (R_node_Same : S_api_Node → S_api_Node → Option (Bool)) (hR_node_Same : ∀ (a0 : S_api_Node) (a1 : S_api_Node) (r : Bool), R_node_Same a0 a1 = some r → CallsX Try.prog 16 [.agg [.val (.int .i64 a0.f_Kind), .str a0.f_Text, .recs (α := List UInt8) [] E_string a0.f_Keys, .tree (α := S_api_Node) (S_api_Node.mk 0 [] [] []) pre_S_api_Node kids_S_api_Node a0.f_Kids], .agg [.val (.int .i64 a1.f_Kind), .str a1.f_Text, .recs (α := List UInt8) [] E_string a1.f_Keys, .tree (α := S_api_Node) (S_api_Node.mk 0 [] [] []) pre_S_api_Node kids_S_api_Node a1.f_Kids]] (.val (.bool r))) (n : Nat) (a0 : List (S_api_Node)) (a1 : List (S_api_Node)) (r : Bool) (h : slices_EqualFunc_api_Node_api_Node_api_Node_api_Node__node_Same R_node_Same n a0 a1 = some r) : CallsX Try.prog 39 [.recs (α := S_api_Node) (S_api_Node.mk 0 [] [] []) E_api_Node a0, .recs (α := S_api_Node) (S_api_Node.mk 0 [] [] []) E_api_Node a1, .fn 16 []] (.val (.bool r)) := by
  unfold slices_EqualFunc_api_Node_api_Node_api_Node_api_Node__node_Same at h
  refine callsX_of (fn := Try.f39) (by kernel_rfl) rfl (by kernel_rfl) (Nat.le_of_ble_eq_true (by kernel_rfl)) fun F0 w0 _ => ?_
  refine Wp.keep (kk := [0, 1, 2]) (kl := []) (K' := [(0, .recs (α := S_api_Node) (S_api_Node.mk 0 [] [] []) E_api_Node a0), (1, .recs (α := S_api_Node) (S_api_Node.mk 0 [] [] []) E_api_Node a1), (2, .fn 16 [])]) (L' := []) (by kernel_rfl) (by kernel_rfl) ?_
  refine Wp.seq ?_
  refine Wp.region hΓ [] [] [] [0, 1, 2] [] (K' := [(0, .recs (α := S_api_Node) (S_api_Node.mk 0 [] [] []) E_api_Node a0), (1, .recs (α := S_api_Node) (S_api_Node.mk 0 [] [] []) E_api_Node a1), (2, .fn 16 [])]) (L' := []) (ob := []) (by kernel_rfl) AllP.nil ?_
  refine To.thenN ?_
  refine Wp.seq ?_
  refine Wp.seq ?_
  refine Wp.region hΓ [] [] [] [0, 1, 2, 14] [] (K' := [(0, .recs (α := S_api_Node) (S_api_Node.mk 0 [] [] []) E_api_Node a0), (1, .recs (α := S_api_Node) (S_api_Node.mk 0 [] [] []) E_api_Node a1), (2, .fn 16 []), (14, .val (.bool ((List.length a0 : Int) != (List.length a1 : Int))))]) (L' := []) (ob := []) (by kernel_rfl) AllP.nil ?_
  refine To.thenN ?_
  refine Wp.cond (b := ((List.length a0 : Int) != (List.length a1 : Int))) (by kernel_rfl) (fun hb => ?_) (fun hb => ?_)
  · replace h := if_t hb h
    refine Wp.seq ?_
    refine Wp.region hΓ [] [] [] [6] [] (K' := [(6, .val (.bool false))]) (L' := []) (ob := []) (by kernel_rfl) AllP.nil ?_
    refine To.thenN ?_
    refine Wp.ret ?_
    refine To.thenR ?_
    refine To.keep (kk := [6]) (kl := []) (K' := [(6, .val (.bool false))]) (L' := []) (by kernel_rfl) (by kernel_rfl) ?_
    cases h
    exact To.done hΓ (by kernel_rfl)
  · replace h := if_f hb h
    refine Wp.skip ?_
    refine To.thenN ?_
    refine Wp.seq ?_
    refine Wp.seq ?_
    refine Wp.region hΓ [] [] [] [1, 2, 15, 16, 17] [] (K' := [(1, .recs (α := S_api_Node) (S_api_Node.mk 0 [] [] []) E_api_Node a1), (2, .fn 16 []), (15, .recs (α := S_api_Node) (S_api_Node.mk 0 [] [] []) E_api_Node a0), (16, .val (.int .i64 (List.length a0 : Int))), (17, .val (.int .i64 0))]) (L' := []) (ob := []) (by kernel_rfl) AllP.nil ?_
    refine To.thenN ?_
    refine Wp.block ?_
    obtain ⟨o1, ho1, h⟩ := bind_of h
    refine Wp.keep (kk := [1, 2, 15, 16, 17]) (kl := []) (K' := [(1, .recs (α := S_api_Node) (S_api_Node.mk 0 [] [] []) E_api_Node a1), (2, .fn 16 []), (15, .recs (α := S_api_Node) (S_api_Node.mk 0 [] [] []) E_api_Node a0), (16, .val (.int .i64 (List.length a0 : Int))), (17, .val (.int .i64 0))]) (L' := []) (by kernel_rfl) (by kernel_rfl) ?_
    refine Wp.loopL ?_
    refine ok_slices_EqualFunc_api_Node_api_Node_api_Node_api_Node__node_Same_l1 R_node_Same hR_node_Same n a1 a0 (List.length a0 : Int) n 0 o1 ho1 ?_
    rcases o1 with o1 | o1
    · replace h := sum_l h
      refine To.blockX ?_
      refine To.thenN ?_
      refine Wp.seq ?_
      refine Wp.region hΓ [] [] [] [6] [] (K' := [(6, .val (.bool true))]) (L' := []) (ob := []) (by kernel_rfl) AllP.nil ?_
      refine To.thenN ?_
      refine Wp.ret ?_
      refine To.keep (kk := [6]) (kl := []) (K' := [(6, .val (.bool true))]) (L' := []) (by kernel_rfl) (by kernel_rfl) ?_
      cases h
      exact To.done hΓ (by kernel_rfl)
    · replace h := sum_r h
      refine To.blockR ?_
      refine To.thenR ?_
      refine To.keep (kk := [6]) (kl := []) (K' := [(6, .val (.bool o1))]) (L' := []) (by kernel_rfl) (by kernel_rfl) ?_
      cases h
      exact To.done hΓ (by kernel_rfl)
def node_Same_b (R_node_Same : S_api_Node → S_api_Node → Option (Bool)) (n : Nat) (a0 : S_api_Node) (a1 : S_api_Node) : Option (Bool) :=
  ((if ((bif (a0.f_Kind == a1.f_Kind) then (a0.f_Text == a1.f_Text) else false) == true) = true then slices_Equal_string_string n a0.f_Keys a1.f_Keys else some false)).bind fun r1 =>
  ((if ((bif (bif (a0.f_Kind == a1.f_Kind) then (a0.f_Text == a1.f_Text) else false) then r1 else false) == true) = true then slices_EqualFunc_api_Node_api_Node_api_Node_api_Node__node_Same R_node_Same n a0.f_Kids a1.f_Kids else some false)).bind fun r2 =>
  lett ((bif (bif (bif (a0.f_Kind == a1.f_Kind) then (a0.f_Text == a1.f_Text) else false) then r1 else false) then r2 else false) : Bool) fun x3 =>
  some x3
theorem ok_node_Same_b (R_node_Same : S_api_Node → S_api_Node → Option (Bool)) (hR_node_Same : ∀ (a0 : S_api_Node) (a1 : S_api_Node) (r : Bool), R_node_Same a0 a1 = some r → CallsX Try.prog 16 [.agg [.val (.int .i64 a0.f_Kind), .str a0.f_Text, .recs (α := List UInt8) [] E_string a0.f_Keys, .tree (α := S_api_Node) (S_api_Node.mk 0 [] [] []) pre_S_api_Node kids_S_api_Node a0.f_Kids], .agg [.val (.int .i64 a1.f_Kind), .str a1.f_Text, .recs (α := List UInt8) [] E_string a1.f_Keys, .tree (α := S_api_Node) (S_api_Node.mk 0 [] [] []) pre_S_api_Node kids_S_api_Node a1.f_Kids]] (.val (.bool r))) (n : Nat) (a0 : S_api_Node) (a1 : S_api_Node) (r : Bool) (h : node_Same_b R_node_Same n a0 a1 = some r) : CallsX Try.prog 16 [.agg [.val (.int .i64 a0.f_Kind), .str a0.f_Text, .recs (α := List UInt8) [] E_string a0.f_Keys, .tree (α := S_api_Node) (S_api_Node.mk 0 [] [] []) pre_S_api_Node kids_S_api_Node a0.f_Kids], .agg [.val (.int .i64 a1.f_Kind), .str a1.f_Text, .recs (α := List UInt8) [] E_string a1.f_Keys, .tree (α := S_api_Node) (S_api_Node.mk 0 [] [] []) pre_S_api_Node kids_S_api_Node a1.f_Kids]] (.val (.bool r)) := by
  unfold node_Same_b at h
  refine callsX_of (fn := Try.f16) (by kernel_rfl) rfl (by kernel_rfl) (Nat.le_of_ble_eq_true (by kernel_rfl)) fun F0 w0 _ => ?_
  refine Wp.keep (kk := [0, 1]) (kl := []) (K' := [(0, .agg [.val (.int .i64 a0.f_Kind), .str a0.f_Text, .recs (α := List UInt8) [] E_string a0.f_Keys, .tree (α := S_api_Node) (S_api_Node.mk 0 [] [] []) pre_S_api_Node kids_S_api_Node a0.f_Kids]), (1, .agg [.val (.int .i64 a1.f_Kind), .str a1.f_Text, .recs (α := List UInt8) [] E_string a1.f_Keys, .tree (α := S_api_Node) (S_api_Node.mk 0 [] [] []) pre_S_api_Node kids_S_api_Node a1.f_Kids])]) (L' := []) (by kernel_rfl) (by kernel_rfl) ?_
  refine Wp.seq ?_
  refine Wp.region hΓ [] [] [] [2, 3] [2, 3] (K' := [(2, .own 2 0), (3, .own 3 0)]) (L' := [(2, 25, [.val (.int .i64 a0.f_Kind), .str a0.f_Text, .recs (α := List UInt8) [] E_string a0.f_Keys, .tree (α := S_api_Node) (S_api_Node.mk 0 [] [] []) pre_S_api_Node kids_S_api_Node a0.f_Kids]), (3, 25, [.val (.int .i64 a1.f_Kind), .str a1.f_Text, .recs (α := List UInt8) [] E_string a1.f_Keys, .tree (α := S_api_Node) (S_api_Node.mk 0 [] [] []) pre_S_api_Node kids_S_api_Node a1.f_Kids])]) (ob := []) (by kernel_rfl) AllP.nil ?_
  refine To.thenN ?_
  refine Wp.seq ?_
  obtain ⟨r1, hr1, h⟩ := bind_of h
  obtain ⟨r2, hr2, h⟩ := bind_of h
  obtain ⟨x3, hx3, h⟩ := lett_of h
  refine Wp.region hΓ [] [(17, .val (.bool r1)), (24, .val (.bool r2))] [] [4] [] (K' := [(4, .val (.bool (bif (bif (bif (a0.f_Kind == a1.f_Kind) then (a0.f_Text == a1.f_Text) else false) then r1 else false) then r2 else false)))]) (L' := []) (ob := [(((bif (a0.f_Kind == a1.f_Kind) then (a0.f_Text == a1.f_Text) else false) == true) = true → CX Try.prog 38 [.recs (α := List UInt8) [] E_string a0.f_Keys, .recs (α := List UInt8) [] E_string a1.f_Keys] (.val (.bool r1))), (((bif (bif (a0.f_Kind == a1.f_Kind) then (a0.f_Text == a1.f_Text) else false) then r1 else false) == true) = true → CX Try.prog 39 [.recs (α := S_api_Node) (S_api_Node.mk 0 [] [] []) E_api_Node a0.f_Kids, .recs (α := S_api_Node) (S_api_Node.mk 0 [] [] []) E_api_Node a1.f_Kids, .fn 16 []] (.val (.bool r2)))]) (by kernel_rfl) (AllP.cons (fun hg => cx (ok_slices_Equal_string_string n a0.f_Keys a1.f_Keys _ (if_t hg hr1))) (AllP.cons (fun hg => cx (ok_slices_EqualFunc_api_Node_api_Node_api_Node_api_Node__node_Same R_node_Same hR_node_Same n a0.f_Kids a1.f_Kids _ (if_t hg hr2))) AllP.nil)) ?_
  refine To.eq (K' := [(4, .val (.bool x3))]) (L' := []) (by cases hx3; rfl) (by cases hx3; rfl) ?_
  refine To.thenN ?_
  refine Wp.ret ?_
  refine To.keep (kk := [4]) (kl := []) (K' := [(4, .val (.bool x3))]) (L' := []) (by kernel_rfl) (by kernel_rfl) ?_
  cases h
  exact To.done hΓ (by kernel_rfl)
def node_Same : Nat → S_api_Node → S_api_Node → Option (Bool)
  | 0 => fun _ _ => none
  | n + 1 => node_Same_b (node_Same n) n
theorem ok_node_Same (n : Nat) : ∀ (a0 : S_api_Node) (a1 : S_api_Node) (r : Bool), node_Same n a0 a1 = some r → CallsX Try.prog 16 [.agg [.val (.int .i64 a0.f_Kind), .str a0.f_Text, .recs (α := List UInt8) [] E_string a0.f_Keys, .tree (α := S_api_Node) (S_api_Node.mk 0 [] [] []) pre_S_api_Node kids_S_api_Node a0.f_Kids], .agg [.val (.int .i64 a1.f_Kind), .str a1.f_Text, .recs (α := List UInt8) [] E_string a1.f_Keys, .tree (α := S_api_Node) (S_api_Node.mk 0 [] [] []) pre_S_api_Node kids_S_api_Node a1.f_Kids]] (.val (.bool r)) := by
  induction n with
  | zero => intro a0 a1 r h; cases h
  | succ n ih => exact fun a0 a1 r h => ok_node_Same_b (node_Same n) ih n a0 a1 r h
end Go.Proofs.Ytjicbelggepaiaa.M
