/-
  Printed by wip/tools/gen.py: models and walks of functions.
-/
import Derived.Test.YtonjhkefnijlhaaDoorM15a
namespace Go.Proofs.YtonjhkefnijlhaaDoor.M
open Go.RowKit Go.Proofs.YtonjhkefnijlhaaDoor.RX
set_option maxRecDepth 100000
theorem ok_ref15_Join_j2 (n : Nat) (v0 : List (List UInt8)) (v3 : List UInt8) (v4 : Int) (o : (List UInt8)) (h : ref15_Join_j2 n v0 v3 v4 = some o) {F0 : Fz} {w0 : Pt Tryd.prog} {Q : Exit → Act → World → Prop} (hQ : To 60 F0 w0 [(0, .recs (α := List UInt8) [] E_string v0), (3, .str o), (4, .val (.int .i64 v4))] [] .normal Q) : Wp Tryd.prog 60 F0 w0 [(0, .recs (α := List UInt8) [] E_string v0), (3, .str v3), (4, .val (.int .i64 v4))] [] (cA (cB (cI (cI (cB (cA (cB (cB (cF Tryd.f24))))))))) Q := by
  unfold ref15_Join_j2 at h
  refine Wp.block ?_
  refine Wp.seq ?_
  refine Wp.seq ?_
  refine Wp.region hΓ [] [] [] [0, 3, 4, 13] [] (K' := [(0, .recs (α := List UInt8) [] E_string v0), (3, .str v3), (4, .val (.int .i64 v4)), (13, .val (.bool (decide (v4 > 0))))]) (L' := []) (ob := []) (by kernel_rfl) AllP.nil ?_
  refine To.thenN ?_
  obtain ⟨o1, ho1, h⟩ := bind_of h
  refine Wp.keep (kk := [0, 3, 4, 13]) (kl := []) (K' := [(0, .recs (α := List UInt8) [] E_string v0), (3, .str v3), (4, .val (.int .i64 v4)), (13, .val (.bool (decide (v4 > 0))))]) (L' := []) (by kernel_rfl) (by kernel_rfl) ?_
  refine ok_ref15_Join_j3 n v0 v3 v4 (decide (v4 > 0)) o1 ho1 ?_
  refine To.thenN ?_
  refine Wp.seq ?_
  refine Wp.seq ?_
  obtain ⟨hc8, h⟩ := chk_of h
  obtain ⟨r2, hr2, h⟩ := bind_of h
  refine Wp.region hΓ [] [(4, .val (.bool r2))] [] [0, 3, 4, 20] [] (K' := [(0, .recs (α := List UInt8) [] E_string v0), (3, .str o1), (4, .val (.int .i64 v4)), (20, .val (.bool r2))]) (L' := []) (ob := [(decide (0 ≤ v4 ∧ v4 < (List.length v0 : Int))) = true, (true = true → CX Tryd.prog 21 [.str ((v0)[Int.toNat v4]?.getD [])] (.val (.bool r2)))]) (by kernel_rfl) (AllP.cons hc8 (AllP.cons (fun _ => cx (ok_ref15_Bare n ((v0)[Int.toNat v4]?.getD []) _ hr2)) AllP.nil)) ?_
  refine To.thenN ?_
  refine Wp.cond (b := r2) (by kernel_rfl) (fun hb => ?_) (fun hb => ?_)
  · replace h := if_t hb h
    refine Wp.seq ?_
    obtain ⟨hc3, h⟩ := chk_of h
    obtain ⟨hc4, h⟩ := chk_of h
    refine Wp.region hΓ [] [] [] [0, 3, 4] [] (K' := [(0, .recs (α := List UInt8) [] E_string v0), (3, .str (o1 ++ ((v0)[Int.toNat v4]?.getD []))), (4, .val (.int .i64 v4))]) (L' := []) (ob := [(decide (0 ≤ v4 ∧ v4 < (List.length v0 : Int))) = true, (decide (((List.length o1 + List.length ((v0)[Int.toNat v4]?.getD []) : Nat) : Int) ≤ 9223372036854775807)) = true]) (by kernel_rfl) (AllP.cons hc3 (AllP.cons hc4 AllP.nil)) ?_
    refine To.thenN ?_
    refine Wp.exit ?_
    refine To.thenX ?_
    refine To.blockX ?_
    refine To.keep (kk := [0, 3, 4]) (kl := []) (K' := [(0, .recs (α := List UInt8) [] E_string v0), (3, .str (o1 ++ ((v0)[Int.toNat v4]?.getD []))), (4, .val (.int .i64 v4))]) (L' := []) (by kernel_rfl) (by kernel_rfl) ?_
    cases h
    exact hQ
  · replace h := if_f hb h
    refine Wp.skip ?_
    refine To.thenN ?_
    refine Wp.seq ?_
    obtain ⟨hc7, h⟩ := chk_of h
    refine Wp.region hΓ [] [] [] [0, 3, 4] [] (K' := [(0, .recs (α := List UInt8) [] E_string v0), (3, .str (o1 ++ [39])), (4, .val (.int .i64 v4))]) (L' := []) (ob := [(decide (((List.length o1 + List.length ([39] : List UInt8) : Nat) : Int) ≤ 9223372036854775807)) = true]) (by kernel_rfl) (AllP.cons hc7 AllP.nil) ?_
    refine To.thenN ?_
    refine Wp.seq ?_
    refine Wp.seq ?_
    refine Wp.region hΓ [] [] [] [0, 3, 4, 5] [] (K' := [(0, .recs (α := List UInt8) [] E_string v0), (3, .str (o1 ++ [39])), (4, .val (.int .i64 v4)), (5, .val (.int .i64 0))]) (L' := []) (ob := []) (by kernel_rfl) AllP.nil ?_
    refine To.thenN ?_
    refine Wp.block ?_
    obtain ⟨o5, ho5, h⟩ := bind_of h
    refine Wp.keep (kk := [0, 3, 4, 5]) (kl := []) (K' := [(0, .recs (α := List UInt8) [] E_string v0), (3, .str (o1 ++ [39])), (4, .val (.int .i64 v4)), (5, .val (.int .i64 0))]) (L' := []) (by kernel_rfl) (by kernel_rfl) ?_
    refine Wp.loopL ?_
    refine ok_ref15_Join_l4 n v0 v4 n (o1 ++ [39]) 0 o5 ho5 ?_
    refine To.blockX ?_
    refine To.thenN ?_
    obtain ⟨hc6, h⟩ := chk_of h
    refine Wp.region hΓ [] [] [] [0, 3, 4] [] (K' := [(0, .recs (α := List UInt8) [] E_string v0), (3, .str (o5 ++ [39])), (4, .val (.int .i64 v4))]) (L' := []) (ob := [(decide (((List.length o5 + List.length ([39] : List UInt8) : Nat) : Int) ≤ 9223372036854775807)) = true]) (by kernel_rfl) (AllP.cons hc6 AllP.nil) ?_
    refine To.blockN ?_
    refine To.keep (kk := [0, 3, 4]) (kl := []) (K' := [(0, .recs (α := List UInt8) [] E_string v0), (3, .str (o5 ++ [39])), (4, .val (.int .i64 v4))]) (L' := []) (by kernel_rfl) (by kernel_rfl) ?_
    cases h
    exact hQ
def ref15_Join_l1 (n : Nat) (v0 : List (List UInt8)) : Nat → (List UInt8) → Int → Option ((List UInt8))
  | 0, _, _ => none
  | k + 1, v3, v4 => if (decide (v4 < (List.length v0 : Int))) = true then ((ref15_Join_j2 n v0 v3 v4).bind fun o1 =>
  ref15_Join_l1 n v0 k o1 (IntKind.wrap .i64 (v4 + 1)))
  else some v3
theorem ok_ref15_Join_l1 (n : Nat) (v0 : List (List UInt8)) {F0 : Fz} {w0 : Pt Tryd.prog} {Q : Exit → Act → World → Prop} (k : Nat) : ∀ (v3 : List UInt8) (v4 : Int) (o : (List UInt8)), ref15_Join_l1 n v0 k v3 v4 = some o → To 60 F0 w0 [(3, .str o)] [] (.exit 0) Q → WL Tryd.prog 60 F0 w0 [(0, .recs (α := List UInt8) [] E_string v0), (3, .str v3), (4, .val (.int .i64 v4))] [] (cI (cI (cB (cA (cB (cB (cF Tryd.f24))))))) Q := by
  induction k with
  | zero => intro v3 v4 o h; cases h
  | succ k ih =>
    intro v3 v4 o h hQ
    rw [ref15_Join_l1] at h
    refine WL.round ?_
    refine Wp.seq ?_
    refine Wp.seq ?_
    refine Wp.region hΓ [] [] [] [0, 3, 4, 9] [] (K' := [(0, .recs (α := List UInt8) [] E_string v0), (3, .str v3), (4, .val (.int .i64 v4)), (9, .val (.bool (decide (v4 < (List.length v0 : Int)))))]) (L' := []) (ob := []) (by kernel_rfl) AllP.nil ?_
    refine To.thenN ?_
    refine Wp.cond (b := (decide (v4 < (List.length v0 : Int)))) (by kernel_rfl) (fun hb => ?_) (fun hb => ?_)
    · replace h := if_t hb h
      refine Wp.skip ?_
      refine To.thenN ?_
      refine Wp.seq ?_
      obtain ⟨o1, ho1, h⟩ := bind_of h
      refine Wp.keep (kk := [0, 3, 4]) (kl := []) (K' := [(0, .recs (α := List UInt8) [] E_string v0), (3, .str v3), (4, .val (.int .i64 v4))]) (L' := []) (by kernel_rfl) (by kernel_rfl) ?_
      refine ok_ref15_Join_j2 n v0 v3 v4 o1 ho1 ?_
      refine To.thenN ?_
      refine Wp.region hΓ [] [] [] [0, 3, 4] [] (K' := [(0, .recs (α := List UInt8) [] E_string v0), (3, .str o1), (4, .val (.int .i64 (IntKind.wrap .i64 (v4 + 1))))]) (L' := []) (ob := []) (by kernel_rfl) AllP.nil ?_
      refine To.keep (kk := [0, 3, 4]) (kl := []) (K' := [(0, .recs (α := List UInt8) [] E_string v0), (3, .str o1), (4, .val (.int .i64 (IntKind.wrap .i64 (v4 + 1))))]) (L' := []) (by kernel_rfl) (by kernel_rfl) ?_
      refine To.again ?_
      exact ih o1 (IntKind.wrap .i64 (v4 + 1)) _ h hQ
    · replace h := if_f hb h
      refine Wp.exit ?_
      refine To.thenX ?_
      refine To.thenX ?_
      refine To.keep (kk := [3]) (kl := []) (K' := [(3, .str v3)]) (L' := []) (by kernel_rfl) (by kernel_rfl) ?_
      cases h
      exact hQ
def ref15_Join (n : Nat) (a0 : List (List UInt8)) : Option ((List UInt8)) :=
  (ref15_Join_l1 n a0 n [] 0).bind fun o1 =>
  some o1
theorem ok_ref15_Join (n : Nat) (a0 : List (List UInt8)) (r : (List UInt8)) (h : ref15_Join n a0 = some r) : CallsX Tryd.prog 24 [.recs (α := List UInt8) [] E_string a0] (.str r) := by
  unfold ref15_Join at h
  refine callsX_of (fn := Tryd.f24) (by kernel_rfl) rfl (by kernel_rfl) (Nat.le_of_ble_eq_true (by kernel_rfl)) fun F0 w0 _ => ?_
  refine Wp.keep (kk := [0]) (kl := []) (K' := [(0, .recs (α := List UInt8) [] E_string a0)]) (L' := []) (by kernel_rfl) (by kernel_rfl) ?_
  refine Wp.seq ?_
  refine Wp.region hΓ [] [] [] [0] [] (K' := [(0, .recs (α := List UInt8) [] E_string a0)]) (L' := []) (ob := []) (by kernel_rfl) AllP.nil ?_
  refine To.thenN ?_
  refine Wp.seq ?_
  refine Wp.region hΓ [] [] [] [0, 3] [] (K' := [(0, .recs (α := List UInt8) [] E_string a0), (3, .str [])]) (L' := []) (ob := []) (by kernel_rfl) AllP.nil ?_
  refine To.thenN ?_
  refine Wp.seq ?_
  refine Wp.seq ?_
  refine Wp.region hΓ [] [] [] [0, 3, 4] [] (K' := [(0, .recs (α := List UInt8) [] E_string a0), (3, .str []), (4, .val (.int .i64 0))]) (L' := []) (ob := []) (by kernel_rfl) AllP.nil ?_
  refine To.thenN ?_
  refine Wp.block ?_
  obtain ⟨o1, ho1, h⟩ := bind_of h
  refine Wp.keep (kk := [0, 3, 4]) (kl := []) (K' := [(0, .recs (α := List UInt8) [] E_string a0), (3, .str []), (4, .val (.int .i64 0))]) (L' := []) (by kernel_rfl) (by kernel_rfl) ?_
  refine Wp.loopL ?_
  refine ok_ref15_Join_l1 n a0 n [] 0 o1 ho1 ?_
  refine To.blockX ?_
  refine To.thenN ?_
  refine Wp.seq ?_
  refine Wp.region hΓ [] [] [] [2] [] (K' := [(2, .str o1)]) (L' := []) (ob := []) (by kernel_rfl) AllP.nil ?_
  refine To.thenN ?_
  refine Wp.ret ?_
  refine To.keep (kk := [2]) (kl := []) (K' := [(2, .str o1)]) (L' := []) (by kernel_rfl) (by kernel_rfl) ?_
  cases h
  exact To.done hΓ (by kernel_rfl)
def law15_WordJoins (n : Nat) (a0 : List (List UInt8)) : Option (Bool) :=
  (law02_Few n a0 40).bind fun r1 =>
  if (!r1) = true then ((law15_awake n).bind fun r2 =>
  some r2)
  else ((word_Join n a0).bind fun r3 =>
  (ref15_Join n a0).bind fun r4 =>
  ((if ((r3 == r4) == true) = true then law15_awake n else some false)).bind fun r5 =>
  some (bif (r3 == r4) then r5 else false))
theorem ok_law15_WordJoins (n : Nat) (a0 : List (List UInt8)) (r : Bool) (h : law15_WordJoins n a0 = some r) : CallsX Tryd.prog 6 [.recs (α := List UInt8) [] E_string a0] (.val (.bool r)) := by
  unfold law15_WordJoins at h
  refine callsX_of (fn := Tryd.f6) (by kernel_rfl) rfl (by kernel_rfl) (Nat.le_of_ble_eq_true (by kernel_rfl)) fun F0 w0 _ => ?_
  refine Wp.keep (kk := [0]) (kl := []) (K' := [(0, .recs (α := List UInt8) [] E_string a0)]) (L' := []) (by kernel_rfl) (by kernel_rfl) ?_
  refine Wp.seq ?_
  refine Wp.region hΓ [] [] [] [0] [] (K' := [(0, .recs (α := List UInt8) [] E_string a0)]) (L' := []) (ob := []) (by kernel_rfl) AllP.nil ?_
  refine To.thenN ?_
  refine Wp.seq ?_
  refine Wp.seq ?_
  obtain ⟨r1, hr1, h⟩ := bind_of h
  refine Wp.region hΓ [] [(1, .val (.bool r1))] [] [0, 5] [] (K' := [(0, .recs (α := List UInt8) [] E_string a0), (5, .val (.bool (!r1)))]) (L' := []) (ob := [(true = true → CX Tryd.prog 22 [.recs (α := List UInt8) [] E_string a0, .val (.int .i64 40)] (.val (.bool r1)))]) (by kernel_rfl) (AllP.cons (fun _ => cx (ok_law02_Few n a0 40 _ hr1)) AllP.nil) ?_
  refine To.thenN ?_
  refine Wp.cond (b := (!r1)) (by kernel_rfl) (fun hb => ?_) (fun hb => ?_)
  · replace h := if_t hb h
    refine Wp.seq ?_
    obtain ⟨r2, hr2, h⟩ := bind_of h
    refine Wp.region hΓ [] [(0, .val (.bool r2))] [] [2] [] (K' := [(2, .val (.bool r2))]) (L' := []) (ob := [(true = true → CX Tryd.prog 16 [] (.val (.bool r2)))]) (by kernel_rfl) (AllP.cons (fun _ => cx (ok_law15_awake n  _ hr2)) AllP.nil) ?_
    refine To.thenN ?_
    refine Wp.ret ?_
    refine To.thenR ?_
    refine To.keep (kk := [2]) (kl := []) (K' := [(2, .val (.bool r2))]) (L' := []) (by kernel_rfl) (by kernel_rfl) ?_
    cases h
    exact To.done hΓ (by kernel_rfl)
  · replace h := if_f hb h
    refine Wp.skip ?_
    refine To.thenN ?_
    refine Wp.seq ?_
    obtain ⟨r3, hr3, h⟩ := bind_of h
    obtain ⟨r4, hr4, h⟩ := bind_of h
    obtain ⟨r5, hr5, h⟩ := bind_of h
    refine Wp.region hΓ [] [(1, .str r3), (3, .str r4), (6, .val (.bool r5))] [] [2] [] (K' := [(2, .val (.bool (bif (r3 == r4) then r5 else false)))]) (L' := []) (ob := [(true = true → CX Tryd.prog 23 [.recs (α := List UInt8) [] E_string a0] (.str r3)), (true = true → CX Tryd.prog 24 [.recs (α := List UInt8) [] E_string a0] (.str r4)), (((r3 == r4) == true) = true → CX Tryd.prog 16 [] (.val (.bool r5)))]) (by kernel_rfl) (AllP.cons (fun _ => cx (ok_word_Join n a0 _ hr3)) (AllP.cons (fun _ => cx (ok_ref15_Join n a0 _ hr4)) (AllP.cons (fun hg => cx (ok_law15_awake n  _ (if_t hg hr5))) AllP.nil))) ?_
    refine To.thenN ?_
    refine Wp.ret ?_
    refine To.keep (kk := [2]) (kl := []) (K' := [(2, .val (.bool (bif (r3 == r4) then r5 else false)))]) (L' := []) (by kernel_rfl) (by kernel_rfl) ?_
    cases h
    exact To.done hΓ (by kernel_rfl)
def law15_WordBack (n : Nat) (a0 : List (List UInt8)) (a1 : List UInt8) : Option (Bool) :=
  (law02_Few n a0 40).bind fun r1 =>
  if (bif (!r1) then true else (decide ((List.length a1 : Int) > 2000))) = true then ((law15_awake n).bind fun r2 =>
  some r2)
  else ((word_Join n a0).bind fun r3 =>
  (word_Split n r3).bind fun r4 =>
  ((if (((r4.2 != 0) == false) && (((decide ((List.length a0 : Int) ≤ 32)) == true) && ((bif (decide ((List.length a0 : Int) > 32)) then (bif (r4.2 != 9) then true else (decide ((List.length r4.1 : Int) > 0))) else false) == false))) = true then ref02_Same n a0 r4.1 else some false)).bind fun r5 =>
  lett ((bif (bif (decide ((List.length a0 : Int) > 32)) then (bif (r4.2 != 9) then true else (decide ((List.length r4.1 : Int) > 0))) else false) then true else (bif (decide ((List.length a0 : Int) ≤ 32)) then (bif (r4.2 != 0) then true else (!r5)) else false)) : Bool) fun x6 =>
  if x6 = true then some false
  else ((word_Split n a1).bind fun r7 =>
  if (r7.2 != 0) = true then (((if (((List.length r7.1 : Int) == 0) == true) = true then law15_awake n else some false)).bind fun r8 =>
  some (bif ((List.length r7.1 : Int) == 0) then r8 else false))
  else ((word_Join n r7.1).bind fun r9 =>
  if (decide (((List.length ([9, 32] : List UInt8) + List.length r9 : Nat) : Int) ≤ 9223372036854775807)) = true then (if (decide (((List.length (([9, 32] : List UInt8) ++ r9) + List.length ([32] : List UInt8) : Nat) : Int) ≤ 9223372036854775807)) = true then ((word_Split n ((([9, 32] : List UInt8) ++ r9) ++ [32])).bind fun r10 =>
  ((if ((r10.2 == 0) == true) = true then ref02_Same n r7.1 r10.1 else some false)).bind fun r11 =>
  ((if ((bif (r10.2 == 0) then r11 else false) == true) = true then law15_awake n else some false)).bind fun r12 =>
  some (bif (bif (r10.2 == 0) then r11 else false) then r12 else false)) else none) else none)))
theorem ok_law15_WordBack (n : Nat) (a0 : List (List UInt8)) (a1 : List UInt8) (r : Bool) (h : law15_WordBack n a0 a1 = some r) : CallsX Tryd.prog 7 [.recs (α := List UInt8) [] E_string a0, .str a1] (.val (.bool r)) := by
  unfold law15_WordBack at h
  refine callsX_of (fn := Tryd.f7) (by kernel_rfl) rfl (by kernel_rfl) (Nat.le_of_ble_eq_true (by kernel_rfl)) fun F0 w0 _ => ?_
  refine Wp.keep (kk := [0, 1]) (kl := []) (K' := [(0, .recs (α := List UInt8) [] E_string a0), (1, .str a1)]) (L' := []) (by kernel_rfl) (by kernel_rfl) ?_
  refine Wp.seq ?_
  refine Wp.region hΓ [] [] [] [0, 1] [] (K' := [(0, .recs (α := List UInt8) [] E_string a0), (1, .str a1)]) (L' := []) (ob := []) (by kernel_rfl) AllP.nil ?_
  refine To.thenN ?_
  refine Wp.seq ?_
  refine Wp.seq ?_
  obtain ⟨r1, hr1, h⟩ := bind_of h
  refine Wp.region hΓ [] [(1, .val (.bool r1))] [] [0, 1, 18] [] (K' := [(0, .recs (α := List UInt8) [] E_string a0), (1, .str a1), (18, .val (.bool (bif (!r1) then true else (decide ((List.length a1 : Int) > 2000)))))]) (L' := []) (ob := [(true = true → CX Tryd.prog 22 [.recs (α := List UInt8) [] E_string a0, .val (.int .i64 40)] (.val (.bool r1)))]) (by kernel_rfl) (AllP.cons (fun _ => cx (ok_law02_Few n a0 40 _ hr1)) AllP.nil) ?_
  refine To.thenN ?_
  refine Wp.cond (b := (bif (!r1) then true else (decide ((List.length a1 : Int) > 2000)))) (by kernel_rfl) (fun hb => ?_) (fun hb => ?_)
  · replace h := if_t hb h
    refine Wp.seq ?_
    obtain ⟨r2, hr2, h⟩ := bind_of h
    refine Wp.region hΓ [] [(0, .val (.bool r2))] [] [4] [] (K' := [(4, .val (.bool r2))]) (L' := []) (ob := [(true = true → CX Tryd.prog 16 [] (.val (.bool r2)))]) (by kernel_rfl) (AllP.cons (fun _ => cx (ok_law15_awake n  _ hr2)) AllP.nil) ?_
    refine To.thenN ?_
    refine Wp.ret ?_
    refine To.thenR ?_
    refine To.keep (kk := [4]) (kl := []) (K' := [(4, .val (.bool r2))]) (L' := []) (by kernel_rfl) (by kernel_rfl) ?_
    cases h
    exact To.done hΓ (by kernel_rfl)
  · replace h := if_f hb h
    refine Wp.skip ?_
    refine To.thenN ?_
    refine Wp.seq ?_
    obtain ⟨r3, hr3, h⟩ := bind_of h
    obtain ⟨r4, hr4, h⟩ := bind_of h
    refine Wp.region hΓ [] [(1, .str r3), (2, .tup [.recs (α := List UInt8) [] E_string r4.1, .val (.int .i64 r4.2)])] [] [0, 1, 5, 6] [] (K' := [(0, .recs (α := List UInt8) [] E_string a0), (1, .str a1), (5, .recs (α := List UInt8) [] E_string r4.1), (6, .val (.int .i64 r4.2))]) (L' := []) (ob := [(true = true → CX Tryd.prog 23 [.recs (α := List UInt8) [] E_string a0] (.str r3)), (true = true → CX Tryd.prog 17 [.str r3] (.tup [.recs (α := List UInt8) [] E_string r4.1, .val (.int .i64 r4.2)]))]) (by kernel_rfl) (AllP.cons (fun _ => cx (ok_word_Join n a0 _ hr3)) (AllP.cons (fun _ => cx (ok_word_Split n r3 _ hr4)) AllP.nil)) ?_
    refine To.thenN ?_
    refine Wp.seq ?_
    refine Wp.seq ?_
    obtain ⟨r5, hr5, h⟩ := bind_of h
    obtain ⟨x6, hx6, h⟩ := lett_of h
    refine Wp.region hΓ [] [(22, .val (.bool r5))] [] [1, 52] [] (K' := [(1, .str a1), (52, .val (.bool (bif (bif (decide ((List.length a0 : Int) > 32)) then (bif (r4.2 != 9) then true else (decide ((List.length r4.1 : Int) > 0))) else false) then true else (bif (decide ((List.length a0 : Int) ≤ 32)) then (bif (r4.2 != 0) then true else (!r5)) else false))))]) (L' := []) (ob := [((((r4.2 != 0) == false) && (((decide ((List.length a0 : Int) ≤ 32)) == true) && ((bif (decide ((List.length a0 : Int) > 32)) then (bif (r4.2 != 9) then true else (decide ((List.length r4.1 : Int) > 0))) else false) == false))) = true → CX Tryd.prog 19 [.recs (α := List UInt8) [] E_string a0, .recs (α := List UInt8) [] E_string r4.1] (.val (.bool r5)))]) (by kernel_rfl) (AllP.cons (fun hg => cx (ok_ref02_Same n a0 r4.1 _ (if_t hg hr5))) AllP.nil) ?_
    refine To.eq (K' := [(1, .str a1), (52, .val (.bool x6))]) (L' := []) (by cases hx6; rfl) (by cases hx6; rfl) ?_
    refine To.thenN ?_
    refine Wp.cond (b := x6) (by kernel_rfl) (fun hb => ?_) (fun hb => ?_)
    · replace h := if_t hb h
      refine Wp.seq ?_
      refine Wp.region hΓ [] [] [] [4] [] (K' := [(4, .val (.bool false))]) (L' := []) (ob := []) (by kernel_rfl) AllP.nil ?_
      refine To.thenN ?_
      refine Wp.ret ?_
      refine To.thenR ?_
      refine To.keep (kk := [4]) (kl := []) (K' := [(4, .val (.bool false))]) (L' := []) (by kernel_rfl) (by kernel_rfl) ?_
      cases h
      exact To.done hΓ (by kernel_rfl)
    · replace h := if_f hb h
      refine Wp.skip ?_
      refine To.thenN ?_
      refine Wp.seq ?_
      obtain ⟨r7, hr7, h⟩ := bind_of h
      refine Wp.region hΓ [] [(1, .tup [.recs (α := List UInt8) [] E_string r7.1, .val (.int .i64 r7.2)])] [] [7, 8] [] (K' := [(7, .recs (α := List UInt8) [] E_string r7.1), (8, .val (.int .i64 r7.2))]) (L' := []) (ob := [(true = true → CX Tryd.prog 17 [.str a1] (.tup [.recs (α := List UInt8) [] E_string r7.1, .val (.int .i64 r7.2)]))]) (by kernel_rfl) (AllP.cons (fun _ => cx (ok_word_Split n a1 _ hr7)) AllP.nil) ?_
      refine To.thenN ?_
      refine Wp.seq ?_
      refine Wp.seq ?_
      refine Wp.region hΓ [] [] [] [7, 59] [] (K' := [(7, .recs (α := List UInt8) [] E_string r7.1), (59, .val (.bool (r7.2 != 0)))]) (L' := []) (ob := []) (by kernel_rfl) AllP.nil ?_
      refine To.thenN ?_
      refine Wp.cond (b := (r7.2 != 0)) (by kernel_rfl) (fun hb => ?_) (fun hb => ?_)
      · replace h := if_t hb h
        refine Wp.seq ?_
        obtain ⟨r8, hr8, h⟩ := bind_of h
        refine Wp.region hΓ [] [(4, .val (.bool r8))] [] [4] [] (K' := [(4, .val (.bool (bif ((List.length r7.1 : Int) == 0) then r8 else false)))]) (L' := []) (ob := [((((List.length r7.1 : Int) == 0) == true) = true → CX Tryd.prog 16 [] (.val (.bool r8)))]) (by kernel_rfl) (AllP.cons (fun hg => cx (ok_law15_awake n  _ (if_t hg hr8))) AllP.nil) ?_
        refine To.thenN ?_
        refine Wp.ret ?_
        refine To.thenR ?_
        refine To.keep (kk := [4]) (kl := []) (K' := [(4, .val (.bool (bif ((List.length r7.1 : Int) == 0) then r8 else false)))]) (L' := []) (by kernel_rfl) (by kernel_rfl) ?_
        cases h
        exact To.done hΓ (by kernel_rfl)
      · replace h := if_f hb h
        refine Wp.skip ?_
        refine To.thenN ?_
        refine Wp.seq ?_
        obtain ⟨r9, hr9, h⟩ := bind_of h
        obtain ⟨hc13, h⟩ := chk_of h
        obtain ⟨hc14, h⟩ := chk_of h
        obtain ⟨r10, hr10, h⟩ := bind_of h
        refine Wp.region hΓ [] [(1, .str r9), (4, .tup [.recs (α := List UInt8) [] E_string r10.1, .val (.int .i64 r10.2)])] [] [7, 9, 10] [] (K' := [(7, .recs (α := List UInt8) [] E_string r7.1), (9, .recs (α := List UInt8) [] E_string r10.1), (10, .val (.int .i64 r10.2))]) (L' := []) (ob := [(true = true → CX Tryd.prog 23 [.recs (α := List UInt8) [] E_string r7.1] (.str r9)), (decide (((List.length ([9, 32] : List UInt8) + List.length r9 : Nat) : Int) ≤ 9223372036854775807)) = true, (decide (((List.length (([9, 32] : List UInt8) ++ r9) + List.length ([32] : List UInt8) : Nat) : Int) ≤ 9223372036854775807)) = true, (true = true → CX Tryd.prog 17 [.str ((([9, 32] : List UInt8) ++ r9) ++ [32])] (.tup [.recs (α := List UInt8) [] E_string r10.1, .val (.int .i64 r10.2)]))]) (by kernel_rfl) (AllP.cons (fun _ => cx (ok_word_Join n r7.1 _ hr9)) (AllP.cons hc13 (AllP.cons hc14 (AllP.cons (fun _ => cx (ok_word_Split n ((([9, 32] : List UInt8) ++ r9) ++ [32]) _ hr10)) AllP.nil)))) ?_
        refine To.thenN ?_
        refine Wp.seq ?_
        obtain ⟨r11, hr11, h⟩ := bind_of h
        obtain ⟨r12, hr12, h⟩ := bind_of h
        refine Wp.region hΓ [] [(5, .val (.bool r11)), (8, .val (.bool r12))] [] [4] [] (K' := [(4, .val (.bool (bif (bif (r10.2 == 0) then r11 else false) then r12 else false)))]) (L' := []) (ob := [(((r10.2 == 0) == true) = true → CX Tryd.prog 19 [.recs (α := List UInt8) [] E_string r7.1, .recs (α := List UInt8) [] E_string r10.1] (.val (.bool r11))), (((bif (r10.2 == 0) then r11 else false) == true) = true → CX Tryd.prog 16 [] (.val (.bool r12)))]) (by kernel_rfl) (AllP.cons (fun hg => cx (ok_ref02_Same n r7.1 r10.1 _ (if_t hg hr11))) (AllP.cons (fun hg => cx (ok_law15_awake n  _ (if_t hg hr12))) AllP.nil)) ?_
        refine To.thenN ?_
        refine Wp.ret ?_
        refine To.keep (kk := [4]) (kl := []) (K' := [(4, .val (.bool (bif (bif (r10.2 == 0) then r11 else false) then r12 else false)))]) (L' := []) (by kernel_rfl) (by kernel_rfl) ?_
        cases h
        exact To.done hΓ (by kernel_rfl)
theorem opens_string : Opens Tryd.prog 9 (fun l : List UInt8 => l.length ≤ maxLen) (fun l => [.str l]) := opens_str (by kernel_rfl)
def W_Lstring (l : List (List UInt8)) : Prop := l.length ≤ maxLen ∧ ∀ x ∈ l, (List.length x ≤ maxLen)
theorem opens_Lstring : Opens Tryd.prog 31 W_Lstring (fun l => [.recs (α := List UInt8) [] E_string l]) := opens_slice (α := List UInt8) (cells := E_string) [] (by kernel_rfl) (by kernel_rfl) (of_decide_eq_true (by kernel_rfl)) opens_string
end Go.Proofs.YtonjhkefnijlhaaDoor.M