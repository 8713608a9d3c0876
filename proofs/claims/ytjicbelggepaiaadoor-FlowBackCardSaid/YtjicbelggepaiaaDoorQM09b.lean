/-
  Part of the proof of FlowBack: M09b.
-/
import Derived.Test.YtjicbelggepaiaaDoorQM09a
set_option linter.all false
namespace Go.Proofs.YtjicbelggepaiaaDoor.M
open Go.RowKit Go.Proofs.YtjicbelggepaiaaDoor.RX
set_option maxRecDepth 100000
theorem ok_flow_reader_key__o0 (n : Nat) (h0 : S_flow_reader) (r : (List UInt8) × S_flow_reader) (h : flow_reader_key__o0 n h0 = some r) : CallsB Tryd.prog 47 [.own 1000000 0] [(1000000, 40, [.str h0.f_s, .val (.int .i64 h0.f_at), .val (.bool h0.f_bad)])] (.str r.1) [(1000000, 40, [.str r.2.f_s, .val (.int .i64 r.2.f_at), .val (.bool r.2.f_bad)])] := by
  unfold flow_reader_key__o0 at h
  refine callsB_of (fn := Tryd.f47) (by kernel_rfl) rfl (by kernel_rfl) (Nat.le_of_ble_eq_true (by kernel_rfl)) fun F0 w0 => ?_
  refine Wp.keep (kk := [0]) (kl := [1000000]) (K' := [(0, .own 1000000 0)]) (L' := [(1000000, 40, [.str h0.f_s, .val (.int .i64 h0.f_at), .val (.bool h0.f_bad)])]) (by kernel_rfl) (by kernel_rfl) ?_
  refine Wp.seq ?_
  refine Wp.region hΓ [] [] [] [0] [1000000] (K' := [(0, .own 1000000 0)]) (L' := [(1000000, 40, [.str h0.f_s, .val (.int .i64 h0.f_at), .val (.bool h0.f_bad)])]) (ob := []) (by kernel_rfl) AllP.nil ?_
  refine To.thenN ?_
  refine Wp.seq ?_
  obtain ⟨r1, hr1, h⟩ := bind_of h
  refine Wp.region hΓ [] [] [(1, ⟨[(1000000, 1000000)], [(1000000, 1000000)], [.own 1000000 0], [(1000000, 40, [.str h0.f_s, .val (.int .i64 h0.f_at), .val (.bool h0.f_bad)])], .val (.int .u8 r1.1), [(1000000, 40, [.str r1.2.f_s, .val (.int .i64 r1.2.f_at), .val (.bool r1.2.f_bad)])]⟩)] [0, 4] [1000000] (K' := [(0, .own 1000000 0), (4, .val (.int .u8 r1.1))]) (L' := [(1000000, 40, [.str r1.2.f_s, .val (.int .i64 r1.2.f_at), .val (.bool r1.2.f_bad)])]) (ob := [CbOb (CallsB Tryd.prog) 18 [.own 1000000 0] [some (40, [.str h0.f_s, .val (.int .i64 h0.f_at), .val (.bool h0.f_bad)])] ⟨[(1000000, 1000000)], [(1000000, 1000000)], [.own 1000000 0], [(1000000, 40, [.str h0.f_s, .val (.int .i64 h0.f_at), .val (.bool h0.f_bad)])], .val (.int .u8 r1.1), [(1000000, 40, [.str r1.2.f_s, .val (.int .i64 r1.2.f_at), .val (.bool r1.2.f_bad)])]⟩]) (by kernel_rfl) (AllP.cons (⟨(ok_flow_reader_next__o0 n h0 _ hr1), by kernel_rfl, by kernel_rfl⟩) AllP.nil) ?_
  refine To.thenN ?_
  refine Wp.seq ?_
  refine Wp.seq ?_
  refine Wp.region hΓ [] [] [] [0, 12] [1000000] (K' := [(0, .own 1000000 0), (12, .val (.bool (bif (r1.1 == 34) then true else (r1.1 == 39))))]) (L' := [(1000000, 40, [.str r1.2.f_s, .val (.int .i64 r1.2.f_at), .val (.bool r1.2.f_bad)])]) (ob := []) (by kernel_rfl) AllP.nil ?_
  refine To.thenN ?_
  obtain ⟨o2, ho2, h⟩ := bind_of h
  refine Wp.keep (kk := [0, 12]) (kl := [1000000]) (K' := [(0, .own 1000000 0), (12, .val (.bool (bif (r1.1 == 34) then true else (r1.1 == 39))))]) (L' := [(1000000, 40, [.str r1.2.f_s, .val (.int .i64 r1.2.f_at), .val (.bool r1.2.f_bad)])]) (by kernel_rfl) (by kernel_rfl) ?_
  refine ok_flow_reader_key__o0_j1 n (bif (r1.1 == 34) then true else (r1.1 == 39)) r1.2 o2 ho2 ?_
  refine To.thenN ?_
  refine Wp.seq ?_
  obtain ⟨r3, hr3, h⟩ := bind_of h
  refine Wp.region hΓ [] [] [(7, ⟨[(1000000, 1000000)], [(1000000, 1000000)], [.own 1000000 0, .val (.int .u8 58)], [(1000000, 40, [.str o2.2.f_s, .val (.int .i64 o2.2.f_at), .val (.bool o2.2.f_bad)])], .val (.bool r3.1), [(1000000, 40, [.str r3.2.f_s, .val (.int .i64 r3.2.f_at), .val (.bool r3.2.f_bad)])]⟩)] [3] [1000000] (K' := [(3, .str o2.1)]) (L' := [(1000000, 40, [.str r3.2.f_s, .val (.int .i64 r3.2.f_at), .val (.bool (bif o2.2.f_bad then true else (!r3.1)))])]) (ob := [((o2.2.f_bad == false) = true → CbOb (CallsB Tryd.prog) 46 [.own 1000000 0, .val (.int .u8 58)] [some (40, [.str o2.2.f_s, .val (.int .i64 o2.2.f_at), .val (.bool o2.2.f_bad)])] ⟨[(1000000, 1000000)], [(1000000, 1000000)], [.own 1000000 0, .val (.int .u8 58)], [(1000000, 40, [.str o2.2.f_s, .val (.int .i64 o2.2.f_at), .val (.bool o2.2.f_bad)])], .val (.bool r3.1), [(1000000, 40, [.str r3.2.f_s, .val (.int .i64 r3.2.f_at), .val (.bool r3.2.f_bad)])]⟩), ((o2.2.f_bad == false) = false → KeepOb [(1000000, 40, [.str o2.2.f_s, .val (.int .i64 o2.2.f_at), .val (.bool o2.2.f_bad)])] ⟨[(1000000, 1000000)], [(1000000, 1000000)], [.own 1000000 0, .val (.int .u8 58)], [(1000000, 40, [.str o2.2.f_s, .val (.int .i64 o2.2.f_at), .val (.bool o2.2.f_bad)])], .val (.bool r3.1), [(1000000, 40, [.str r3.2.f_s, .val (.int .i64 r3.2.f_at), .val (.bool r3.2.f_bad)])]⟩)]) (by kernel_rfl) (AllP.cons (fun hg => ⟨(ok_flow_reader_take__o0 n 58 o2.2 _ (if_t hg hr3)), by kernel_rfl, by kernel_rfl⟩) (AllP.cons (fun hg => by cases if_f hg hr3; exact keepOb (by kernel_rfl)) AllP.nil)) ?_
  refine To.thenN ?_
  refine Wp.seq ?_
  refine Wp.region hΓ [] [] [] [2] [1000000] (K' := [(2, .str o2.1)]) (L' := [(1000000, 40, [.str r3.2.f_s, .val (.int .i64 r3.2.f_at), .val (.bool (bif o2.2.f_bad then true else (!r3.1)))])]) (ob := []) (by kernel_rfl) AllP.nil ?_
  refine To.thenN ?_
  refine Wp.ret ?_
  refine To.keep (kk := [2]) (kl := [1000000]) (K' := [(2, .str o2.1)]) (L' := [(1000000, 40, [.str r3.2.f_s, .val (.int .i64 r3.2.f_at), .val (.bool (bif o2.2.f_bad then true else (!r3.1)))])]) (by kernel_rfl) (by kernel_rfl) ?_
  cases h
  exact To.doneB hΓ [1000000] (by kernel_rfl) (by kernel_rfl)
mutual
def flow_reader_pairs__o0_g1_e (R_flow_reader_value__o0 : S_flow_reader → Option (S_api_Node × Bool × S_flow_reader)) (n : Nat) : Nat → S_api_Node → S_flow_reader → Option (S_api_Node × S_flow_reader)
  | 0, _, _ => none
  | k + 1, b2, b1000000 => (flow_reader_take__o0 n 125 (S_flow_reader.mk b1000000.f_s (IntKind.wrap .i64 (b1000000.f_at + 1)) b1000000.f_bad)).bind fun r1 =>
  if r1.1 = true then (some ((S_api_Node.mk 3 [] [] []), r1.2))
  else ((flow_reader_key__o0 n r1.2).bind fun r2 =>
  lett ((bif r2.2.f_bad then true else (decide (((mlook (mput ([] : List (MK × Int)) (.inl r2.1) (IntKind.wrap .i64 (((mlook ([] : List (MK × Int)) (.inl r2.1)).getD 0) + 1))) (.inl r2.1)).getD 0) > 1))) : Bool) fun x3 =>
  if x3 = true then (some ((S_api_Node.mk 3 [] [] []), (S_flow_reader.mk r2.2.f_s r2.2.f_at true)))
  else ((R_flow_reader_value__o0 r2.2).bind fun r4 =>
  if (decide ((List.length ([] : List (List UInt8)) + List.length ([r2.1] : List (List UInt8))) * (16 + 1) ≤ limit)) = true then (if (decide ((List.length ([] : List (S_api_Node)) + List.length ([r4.1] : List (S_api_Node))) * (72 + 1) ≤ limit)) = true then (if r4.2.2.f_bad = true then (some ((S_api_Node.mk 3 [] (([] : List (List UInt8)) ++ ([r2.1] : List (List UInt8))) (([] : List (S_api_Node)) ++ ([r4.1] : List (S_api_Node)))), r4.2.2))
  else ((flow_reader_take__o0 n 44 r4.2.2).bind fun r5 =>
  if r5.1 = true then (flow_reader_pairs__o0_g1_0 R_flow_reader_value__o0 n k b2 (S_api_Node.mk 3 [] (([] : List (List UInt8)) ++ ([r2.1] : List (List UInt8))) (([] : List (S_api_Node)) ++ ([r4.1] : List (S_api_Node)))) (mput ([] : List (MK × Int)) (.inl r2.1) (IntKind.wrap .i64 (((mlook ([] : List (MK × Int)) (.inl r2.1)).getD 0) + 1))) r5.2)
  else ((flow_reader_take__o0 n 125 r5.2).bind fun r6 =>
  some ((S_api_Node.mk 3 [] (([] : List (List UInt8)) ++ ([r2.1] : List (List UInt8))) (([] : List (S_api_Node)) ++ ([r4.1] : List (S_api_Node)))), (S_flow_reader.mk r6.2.f_s r6.2.f_at (!r6.1)))))) else none) else none))
def flow_reader_pairs__o0_g1_0 (R_flow_reader_value__o0 : S_flow_reader → Option (S_api_Node × Bool × S_flow_reader)) (n : Nat) : Nat → S_api_Node → S_api_Node → (List (MK × Int)) → S_flow_reader → Option (S_api_Node × S_flow_reader)
  | 0, _, _, _, _ => none
  | k + 1, b2, b3, b9, b1000000 => (flow_reader_key__o0 n b1000000).bind fun r1 =>
  lett ((bif r1.2.f_bad then true else (decide (((mlook (mput b9 (.inl r1.1) (IntKind.wrap .i64 (((mlook b9 (.inl r1.1)).getD 0) + 1))) (.inl r1.1)).getD 0) > 1))) : Bool) fun x2 =>
  if x2 = true then (some (b3, (S_flow_reader.mk r1.2.f_s r1.2.f_at true)))
  else ((R_flow_reader_value__o0 r1.2).bind fun r3 =>
  if (decide ((List.length b3.f_Keys + List.length ([r1.1] : List (List UInt8))) * (16 + 1) ≤ limit)) = true then (if (decide ((List.length b3.f_Kids + List.length ([r3.1] : List (S_api_Node))) * (72 + 1) ≤ limit)) = true then (if r3.2.2.f_bad = true then (some ((S_api_Node.mk b3.f_Kind b3.f_Text (b3.f_Keys ++ ([r1.1] : List (List UInt8))) (b3.f_Kids ++ ([r3.1] : List (S_api_Node)))), r3.2.2))
  else ((flow_reader_take__o0 n 44 r3.2.2).bind fun r4 =>
  if r4.1 = true then (flow_reader_pairs__o0_g1_0 R_flow_reader_value__o0 n k b2 (S_api_Node.mk b3.f_Kind b3.f_Text (b3.f_Keys ++ ([r1.1] : List (List UInt8))) (b3.f_Kids ++ ([r3.1] : List (S_api_Node)))) (mput b9 (.inl r1.1) (IntKind.wrap .i64 (((mlook b9 (.inl r1.1)).getD 0) + 1))) r4.2)
  else ((flow_reader_take__o0 n 125 r4.2).bind fun r5 =>
  some ((S_api_Node.mk b3.f_Kind b3.f_Text (b3.f_Keys ++ ([r1.1] : List (List UInt8))) (b3.f_Kids ++ ([r3.1] : List (S_api_Node)))), (S_flow_reader.mk r5.2.f_s r5.2.f_at (!r5.1)))))) else none) else none)
end
theorem ok_flow_reader_pairs__o0_g1 (R_flow_reader_value__o0 : S_flow_reader → Option (S_api_Node × Bool × S_flow_reader)) (hR_flow_reader_value__o0 : ∀ (h0 : S_flow_reader) (r : S_api_Node × Bool × S_flow_reader), R_flow_reader_value__o0 h0 = some r → CallsB Tryd.prog 17 [.own 1000000 0] [(1000000, 40, [.str h0.f_s, .val (.int .i64 h0.f_at), .val (.bool h0.f_bad)])] (.tup [.agg [.val (.int .i64 r.1.f_Kind), .str r.1.f_Text, .recs (α := List UInt8) [] E_string r.1.f_Keys, .tree (α := S_api_Node) (S_api_Node.mk 0 [] [] []) pre_S_api_Node kids_S_api_Node r.1.f_Kids], .val (.bool r.2.1)]) [(1000000, 40, [.str r.2.2.f_s, .val (.int .i64 r.2.2.f_at), .val (.bool r.2.2.f_bad)])]) (n : Nat) {F0 : Fz} {w0 : Pt Tryd.prog} {Q : Exit → Act → World → Prop} (k : Nat) : (∀ (b2 : S_api_Node) (b1000000 : S_flow_reader) (o : S_api_Node × S_flow_reader), flow_reader_pairs__o0_g1_e R_flow_reader_value__o0 n k b2 b1000000 = some o → To 71 F0 w0 [(2, .own 2 0)] [(2, 25, [.val (.int .i64 o.1.f_Kind), .str o.1.f_Text, .row 4122, .row 4123]), (4122, 9, [.rowc false (α := List UInt8) [] E_string o.1.f_Keys]), (4123, 25, [.rowc false (α := S_api_Node) (S_api_Node.mk 0 [] [] []) E_api_Node o.1.f_Kids]), (1000000, 40, [.str o.2.f_s, .val (.int .i64 o.2.f_at), .val (.bool o.2.f_bad)])] .ret Q → WG Tryd.prog 71 F0 w0 [(0, .own 1000000 0), (2, .own 2 0)] [(2, 25, [.val (.int .i64 b2.f_Kind), .str b2.f_Text, .recs (α := List UInt8) [] E_string b2.f_Keys, .tree (α := S_api_Node) (S_api_Node.mk 0 [] [] []) pre_S_api_Node kids_S_api_Node b2.f_Kids]), (1000000, 40, [.str b1000000.f_s, .val (.int .i64 b1000000.f_at), .val (.bool b1000000.f_bad)])] (cI (cB (cF Tryd.f31))) (cI (cB (cF Tryd.f31))) Q) ∧
  (∀ (b2 : S_api_Node) (b3 : S_api_Node) (b9 : List (MK × Int)) (b1000000 : S_flow_reader) (o : S_api_Node × S_flow_reader), flow_reader_pairs__o0_g1_0 R_flow_reader_value__o0 n k b2 b3 b9 b1000000 = some o → To 71 F0 w0 [(2, .own 2 0)] [(2, 25, [.val (.int .i64 o.1.f_Kind), .str o.1.f_Text, .row 4122, .row 4123]), (4122, 9, [.rowc false (α := List UInt8) [] E_string o.1.f_Keys]), (4123, 25, [.rowc false (α := S_api_Node) (S_api_Node.mk 0 [] [] []) E_api_Node o.1.f_Kids]), (1000000, 40, [.str o.2.f_s, .val (.int .i64 o.2.f_at), .val (.bool o.2.f_bad)])] .ret Q → WG Tryd.prog 71 F0 w0 [(0, .own 1000000 0), (2, .own 2 0), (3, .own 3 0), (4, .mp 9)] [(2, 25, [.val (.int .i64 b2.f_Kind), .str b2.f_Text, .recs (α := List UInt8) [] E_string b2.f_Keys, .tree (α := S_api_Node) (S_api_Node.mk 0 [] [] []) pre_S_api_Node kids_S_api_Node b2.f_Kids]), (3, 25, [.val (.int .i64 b3.f_Kind), .str b3.f_Text, .row 4182, .row 4183]), (9, 70, [.mapc none false (α := Int) 0 E_i64 b9]), (4182, 9, [.rowc false (α := List UInt8) [] E_string b3.f_Keys]), (4183, 25, [.rowc false (α := S_api_Node) (S_api_Node.mk 0 [] [] []) E_api_Node b3.f_Kids]), (1000000, 40, [.str b1000000.f_s, .val (.int .i64 b1000000.f_at), .val (.bool b1000000.f_bad)])] (cI (cB (cF Tryd.f31))) (cG 0 (cB (cF Tryd.f31))) Q) := by
  induction k with
  | zero => exact ⟨(by intro b2 b1000000 o h; cases h), (by intro b2 b3 b9 b1000000 o h; cases h)⟩
  | succ k ih =>
    refine ⟨?_, ?_⟩
    · intro b2 b1000000 o h hQ
      rw [flow_reader_pairs__o0_g1_e] at h
      refine WG.pass ?_
      refine Wp.seq ?_
      refine Wp.region hΓ [] [] [] [0, 2, 3] [2, 3, 1000000] (K' := [(0, .own 1000000 0), (2, .own 2 0), (3, .own 3 0)]) (L' := [(2, 25, [.val (.int .i64 b2.f_Kind), .str b2.f_Text, .recs (α := List UInt8) [] E_string b2.f_Keys, .tree (α := S_api_Node) (S_api_Node.mk 0 [] [] []) pre_S_api_Node kids_S_api_Node b2.f_Kids]), (3, 25, [.val (.int .i64 3), .str [], .val (.slice none 0 0), .val (.slice none 0 0)]), (1000000, 40, [.str b1000000.f_s, .val (.int .i64 b1000000.f_at), .val (.bool b1000000.f_bad)])]) (ob := []) (by kernel_rfl) AllP.nil ?_
      refine To.thenN ?_
      refine Wp.seq ?_
      refine Wp.region hΓ [] [(0, .mapc none false (α := Int) 0 E_i64 [])] [] [0, 2, 3, 4] [2, 3, 9, 1000000] (K' := [(0, .own 1000000 0), (2, .own 2 0), (3, .own 3 0), (4, .mp 9)]) (L' := [(2, 25, [.val (.int .i64 b2.f_Kind), .str b2.f_Text, .recs (α := List UInt8) [] E_string b2.f_Keys, .tree (α := S_api_Node) (S_api_Node.mk 0 [] [] []) pre_S_api_Node kids_S_api_Node b2.f_Kids]), (3, 25, [.val (.int .i64 3), .str [], .val (.slice none 0 0), .val (.slice none 0 0)]), (9, 70, [.mapc none false (α := Int) 0 E_i64 []]), (1000000, 40, [.str b1000000.f_s, .val (.int .i64 b1000000.f_at), .val (.bool b1000000.f_bad)])]) (ob := [(GoodM false E_i64)]) (by kernel_rfl) (AllP.cons (⟨fun _ => rfl, fun _ _ => rfl⟩) AllP.nil) ?_
      refine To.thenN ?_
      refine Wp.seq ?_
      refine Wp.region hΓ [] [] [] [0, 2, 3, 4] [2, 3, 9, 1000000] (K' := [(0, .own 1000000 0), (2, .own 2 0), (3, .own 3 0), (4, .mp 9)]) (L' := [(2, 25, [.val (.int .i64 b2.f_Kind), .str b2.f_Text, .recs (α := List UInt8) [] E_string b2.f_Keys, .tree (α := S_api_Node) (S_api_Node.mk 0 [] [] []) pre_S_api_Node kids_S_api_Node b2.f_Kids]), (3, 25, [.val (.int .i64 3), .str [], .val (.slice none 0 0), .val (.slice none 0 0)]), (9, 70, [.mapc none false (α := Int) 0 E_i64 []]), (1000000, 40, [.str b1000000.f_s, .val (.int .i64 (IntKind.wrap .i64 (b1000000.f_at + 1))), .val (.bool b1000000.f_bad)])]) (ob := []) (by kernel_rfl) AllP.nil ?_
      refine To.thenN ?_
      refine Wp.seq ?_
      refine Wp.seq ?_
      obtain ⟨r1, hr1, h⟩ := bind_of h
      refine Wp.region hΓ [] [] [(1, ⟨[(1000000, 1000000)], [(1000000, 1000000)], [.own 1000000 0, .val (.int .u8 125)], [(1000000, 40, [.str b1000000.f_s, .val (.int .i64 (IntKind.wrap .i64 (b1000000.f_at + 1))), .val (.bool b1000000.f_bad)])], .val (.bool r1.1), [(1000000, 40, [.str r1.2.f_s, .val (.int .i64 r1.2.f_at), .val (.bool r1.2.f_bad)])]⟩)] [0, 2, 3, 4, 18] [2, 3, 9, 1000000] (K' := [(0, .own 1000000 0), (2, .own 2 0), (3, .own 3 0), (4, .mp 9), (18, .val (.bool r1.1))]) (L' := [(2, 25, [.val (.int .i64 b2.f_Kind), .str b2.f_Text, .recs (α := List UInt8) [] E_string b2.f_Keys, .tree (α := S_api_Node) (S_api_Node.mk 0 [] [] []) pre_S_api_Node kids_S_api_Node b2.f_Kids]), (3, 25, [.val (.int .i64 3), .str [], .val (.slice none 0 0), .val (.slice none 0 0)]), (9, 70, [.mapc none false (α := Int) 0 E_i64 []]), (1000000, 40, [.str r1.2.f_s, .val (.int .i64 r1.2.f_at), .val (.bool r1.2.f_bad)])]) (ob := [CbOb (CallsB Tryd.prog) 46 [.own 1000000 0, .val (.int .u8 125)] [some (40, [.str b1000000.f_s, .val (.int .i64 (IntKind.wrap .i64 (b1000000.f_at + 1))), .val (.bool b1000000.f_bad)])] ⟨[(1000000, 1000000)], [(1000000, 1000000)], [.own 1000000 0, .val (.int .u8 125)], [(1000000, 40, [.str b1000000.f_s, .val (.int .i64 (IntKind.wrap .i64 (b1000000.f_at + 1))), .val (.bool b1000000.f_bad)])], .val (.bool r1.1), [(1000000, 40, [.str r1.2.f_s, .val (.int .i64 r1.2.f_at), .val (.bool r1.2.f_bad)])]⟩]) (by kernel_rfl) (AllP.cons (⟨(ok_flow_reader_take__o0 n 125 (S_flow_reader.mk b1000000.f_s (IntKind.wrap .i64 (b1000000.f_at + 1)) b1000000.f_bad) _ hr1), by kernel_rfl, by kernel_rfl⟩) AllP.nil) ?_
      refine To.thenN ?_
      refine Wp.cond (b := r1.1) (by kernel_rfl) (fun hb => ?_) (fun hb => ?_)
      · replace h := if_t hb h
        refine Wp.seq ?_
        refine Wp.region hΓ [] [] [] [2] [2, 1000000] (K' := [(2, .own 2 0)]) (L' := [(2, 25, [.val (.int .i64 3), .str [], .val (.slice none 0 0), .val (.slice none 0 0)]), (1000000, 40, [.str r1.2.f_s, .val (.int .i64 r1.2.f_at), .val (.bool r1.2.f_bad)])]) (ob := []) (by kernel_rfl) AllP.nil ?_
        refine To.thenN ?_
        refine Wp.ret ?_
        refine To.thenR ?_
        refine To.goesO (.inr (.inl rfl)) ?_
        refine To.keep (kk := [2]) (kl := [2, 1000000]) (K' := [(2, .own 2 0)]) (L' := [(2, 25, [.val (.int .i64 3), .str [], .val (.slice none 0 0), .val (.slice none 0 0)]), (1000000, 40, [.str r1.2.f_s, .val (.int .i64 r1.2.f_at), .val (.bool r1.2.f_bad)])]) (by kernel_rfl) (by kernel_rfl) ?_
        refine To.pre (St.vacantB 2 2 4122 9 (good_E_string _) (by decide) (by kernel_rfl) (L' := [(2, 25, [.val (.int .i64 3), .str [], .row 4122, .val (.slice none 0 0)]), (1000000, 40, [.str r1.2.f_s, .val (.int .i64 r1.2.f_at), .val (.bool r1.2.f_bad)])]) (by kernel_rfl)) ?_
        refine To.keep (kk := [2]) (kl := [2, 4122, 1000000]) (K' := [(2, .own 2 0)]) (L' := [(2, 25, [.val (.int .i64 3), .str [], .row 4122, .val (.slice none 0 0)]), (4122, 9, [.rowc false (α := List UInt8) [] E_string []]), (1000000, 40, [.str r1.2.f_s, .val (.int .i64 r1.2.f_at), .val (.bool r1.2.f_bad)])]) (by kernel_rfl) (by kernel_rfl) ?_
        refine To.pre (St.vacantB 2 3 4123 25 (good_E_api_Node _) (by decide) (by kernel_rfl) (L' := [(2, 25, [.val (.int .i64 3), .str [], .row 4122, .row 4123]), (4122, 9, [.rowc false (α := List UInt8) [] E_string []]), (1000000, 40, [.str r1.2.f_s, .val (.int .i64 r1.2.f_at), .val (.bool r1.2.f_bad)])]) (by kernel_rfl)) ?_
        refine To.keep (kk := [2]) (kl := [2, 4122, 4123, 1000000]) (K' := [(2, .own 2 0)]) (L' := [(2, 25, [.val (.int .i64 3), .str [], .row 4122, .row 4123]), (4122, 9, [.rowc false (α := List UInt8) [] E_string []]), (4123, 25, [.rowc false (α := S_api_Node) (S_api_Node.mk 0 [] [] []) E_api_Node []]), (1000000, 40, [.str r1.2.f_s, .val (.int .i64 r1.2.f_at), .val (.bool r1.2.f_bad)])]) (by kernel_rfl) (by kernel_rfl) ?_
        cases h
        exact hQ
      · replace h := if_f hb h
        refine Wp.skip ?_
        refine To.thenN ?_
        refine Wp.seq ?_
        refine Wp.keep (kk := [0, 2, 3, 4, 18]) (kl := [2, 3, 9, 1000000]) (K' := [(0, .own 1000000 0), (2, .own 2 0), (3, .own 3 0), (4, .mp 9), (18, .val (.bool r1.1))]) (L' := [(2, 25, [.val (.int .i64 b2.f_Kind), .str b2.f_Text, .recs (α := List UInt8) [] E_string b2.f_Keys, .tree (α := S_api_Node) (S_api_Node.mk 0 [] [] []) pre_S_api_Node kids_S_api_Node b2.f_Kids]), (3, 25, [.val (.int .i64 3), .str [], .val (.slice none 0 0), .val (.slice none 0 0)]), (9, 70, [.mapc none false (α := Int) 0 E_i64 []]), (1000000, 40, [.str r1.2.f_s, .val (.int .i64 r1.2.f_at), .val (.bool r1.2.f_bad)])]) (by kernel_rfl) (by kernel_rfl) ?_
        refine Wp.pre (St.vacantB 3 2 4182 9 (good_E_string _) (by decide) (by kernel_rfl) (L' := [(2, 25, [.val (.int .i64 b2.f_Kind), .str b2.f_Text, .recs (α := List UInt8) [] E_string b2.f_Keys, .tree (α := S_api_Node) (S_api_Node.mk 0 [] [] []) pre_S_api_Node kids_S_api_Node b2.f_Kids]), (3, 25, [.val (.int .i64 3), .str [], .row 4182, .val (.slice none 0 0)]), (9, 70, [.mapc none false (α := Int) 0 E_i64 []]), (1000000, 40, [.str r1.2.f_s, .val (.int .i64 r1.2.f_at), .val (.bool r1.2.f_bad)])]) (by kernel_rfl)) ?_
        refine Wp.keep (kk := [0, 2, 3, 4, 18]) (kl := [2, 3, 9, 4182, 1000000]) (K' := [(0, .own 1000000 0), (2, .own 2 0), (3, .own 3 0), (4, .mp 9), (18, .val (.bool r1.1))]) (L' := [(2, 25, [.val (.int .i64 b2.f_Kind), .str b2.f_Text, .recs (α := List UInt8) [] E_string b2.f_Keys, .tree (α := S_api_Node) (S_api_Node.mk 0 [] [] []) pre_S_api_Node kids_S_api_Node b2.f_Kids]), (3, 25, [.val (.int .i64 3), .str [], .row 4182, .val (.slice none 0 0)]), (9, 70, [.mapc none false (α := Int) 0 E_i64 []]), (4182, 9, [.rowc false (α := List UInt8) [] E_string []]), (1000000, 40, [.str r1.2.f_s, .val (.int .i64 r1.2.f_at), .val (.bool r1.2.f_bad)])]) (by kernel_rfl) (by kernel_rfl) ?_
        refine Wp.pre (St.vacantB 3 3 4183 25 (good_E_api_Node _) (by decide) (by kernel_rfl) (L' := [(2, 25, [.val (.int .i64 b2.f_Kind), .str b2.f_Text, .recs (α := List UInt8) [] E_string b2.f_Keys, .tree (α := S_api_Node) (S_api_Node.mk 0 [] [] []) pre_S_api_Node kids_S_api_Node b2.f_Kids]), (3, 25, [.val (.int .i64 3), .str [], .row 4182, .row 4183]), (9, 70, [.mapc none false (α := Int) 0 E_i64 []]), (4182, 9, [.rowc false (α := List UInt8) [] E_string []]), (1000000, 40, [.str r1.2.f_s, .val (.int .i64 r1.2.f_at), .val (.bool r1.2.f_bad)])]) (by kernel_rfl)) ?_
        refine Wp.keep (kk := [0, 2, 3, 4, 18]) (kl := [2, 3, 9, 4182, 4183, 1000000]) (K' := [(0, .own 1000000 0), (2, .own 2 0), (3, .own 3 0), (4, .mp 9), (18, .val (.bool r1.1))]) (L' := [(2, 25, [.val (.int .i64 b2.f_Kind), .str b2.f_Text, .recs (α := List UInt8) [] E_string b2.f_Keys, .tree (α := S_api_Node) (S_api_Node.mk 0 [] [] []) pre_S_api_Node kids_S_api_Node b2.f_Kids]), (3, 25, [.val (.int .i64 3), .str [], .row 4182, .row 4183]), (9, 70, [.mapc none false (α := Int) 0 E_i64 []]), (4182, 9, [.rowc false (α := List UInt8) [] E_string []]), (4183, 25, [.rowc false (α := S_api_Node) (S_api_Node.mk 0 [] [] []) E_api_Node []]), (1000000, 40, [.str r1.2.f_s, .val (.int .i64 r1.2.f_at), .val (.bool r1.2.f_bad)])]) (by kernel_rfl) (by kernel_rfl) ?_
        refine Wp.label ?_
        refine To.thenN ?_
        refine Wp.seq ?_
        obtain ⟨r2, hr2, h⟩ := bind_of h
        refine Wp.region hΓ [] [] [(1, ⟨[(1000000, 1000000)], [(1000000, 1000000)], [.own 1000000 0], [(1000000, 40, [.str r1.2.f_s, .val (.int .i64 r1.2.f_at), .val (.bool r1.2.f_bad)])], .str r2.1, [(1000000, 40, [.str r2.2.f_s, .val (.int .i64 r2.2.f_at), .val (.bool r2.2.f_bad)])]⟩)] [0, 2, 3, 4, 5] [2, 3, 9, 4182, 4183, 1000000] (K' := [(0, .own 1000000 0), (2, .own 2 0), (3, .own 3 0), (4, .mp 9), (5, .str r2.1)]) (L' := [(2, 25, [.val (.int .i64 b2.f_Kind), .str b2.f_Text, .recs (α := List UInt8) [] E_string b2.f_Keys, .tree (α := S_api_Node) (S_api_Node.mk 0 [] [] []) pre_S_api_Node kids_S_api_Node b2.f_Kids]), (3, 25, [.val (.int .i64 3), .str [], .row 4182, .row 4183]), (9, 70, [.mapc none false (α := Int) 0 E_i64 []]), (4182, 9, [.rowc false (α := List UInt8) [] E_string []]), (4183, 25, [.rowc false (α := S_api_Node) (S_api_Node.mk 0 [] [] []) E_api_Node []]), (1000000, 40, [.str r2.2.f_s, .val (.int .i64 r2.2.f_at), .val (.bool r2.2.f_bad)])]) (ob := [CbOb (CallsB Tryd.prog) 47 [.own 1000000 0] [some (40, [.str r1.2.f_s, .val (.int .i64 r1.2.f_at), .val (.bool r1.2.f_bad)])] ⟨[(1000000, 1000000)], [(1000000, 1000000)], [.own 1000000 0], [(1000000, 40, [.str r1.2.f_s, .val (.int .i64 r1.2.f_at), .val (.bool r1.2.f_bad)])], .str r2.1, [(1000000, 40, [.str r2.2.f_s, .val (.int .i64 r2.2.f_at), .val (.bool r2.2.f_bad)])]⟩]) (by kernel_rfl) (AllP.cons (⟨(ok_flow_reader_key__o0 n r1.2 _ hr2), by kernel_rfl, by kernel_rfl⟩) AllP.nil) ?_
        refine To.thenN ?_
        refine Wp.seq ?_
        refine Wp.seq ?_
        refine Wp.region hΓ [] [(2, .val (.int .i64 ((mlook ([] : List (MK × Int)) (.inl r2.1)).getD 0))), (4, .mapc none false (α := Int) 0 E_i64 (mput ([] : List (MK × Int)) (.inl r2.1) (IntKind.wrap .i64 (((mlook ([] : List (MK × Int)) (.inl r2.1)).getD 0) + 1))))] [] [0, 2, 3, 4, 5] [2, 3, 9, 4182, 4183, 1000000] (K' := [(0, .own 1000000 0), (2, .own 2 0), (3, .own 3 0), (4, .mp 9), (5, .str r2.1)]) (L' := [(2, 25, [.val (.int .i64 b2.f_Kind), .str b2.f_Text, .recs (α := List UInt8) [] E_string b2.f_Keys, .tree (α := S_api_Node) (S_api_Node.mk 0 [] [] []) pre_S_api_Node kids_S_api_Node b2.f_Kids]), (3, 25, [.val (.int .i64 3), .str [], .row 4182, .row 4183]), (9, 70, [.mapc none false (α := Int) 0 E_i64 (mput ([] : List (MK × Int)) (.inl r2.1) (IntKind.wrap .i64 (((mlook ([] : List (MK × Int)) (.inl r2.1)).getD 0) + 1)))]), (4182, 9, [.rowc false (α := List UInt8) [] E_string []]), (4183, 25, [.rowc false (α := S_api_Node) (S_api_Node.mk 0 [] [] []) E_api_Node []]), (1000000, 40, [.str r2.2.f_s, .val (.int .i64 r2.2.f_at), .val (.bool r2.2.f_bad)])]) (ob := [(true = true → LookOb false E_i64 ([] : List (MK × Int)) (.inl r2.1) [.val (.int .i64 0)] (.val (.int .i64 ((mlook ([] : List (MK × Int)) (.inl r2.1)).getD 0)))), (∃ l' : List (MK × Int), (.mapc none false (α := Int) 0 E_i64 (mput ([] : List (MK × Int)) (.inl r2.1) (IntKind.wrap .i64 (((mlook ([] : List (MK × Int)) (.inl r2.1)).getD 0) + 1))) : D) = .mapc none false (α := Int) 0 E_i64 l' ∧ MsetOb E_i64 ([] : List (MK × Int)) (.inl r2.1) [.val (.int .i64 (IntKind.wrap .i64 (((mlook ([] : List (MK × Int)) (.inl r2.1)).getD 0) + 1)))] l')]) (by kernel_rfl) (AllP.cons (fun _ => ⟨0, Weaks.of_eq (by kernel_rfl), by kernel_rfl⟩) (AllP.cons (⟨_, rfl, (IntKind.wrap .i64 (((mlook ([] : List (MK × Int)) (.inl r2.1)).getD 0) + 1)), Weaks.of_eq (by kernel_rfl), rfl⟩) AllP.nil)) ?_
        refine To.thenN ?_
        refine Wp.seq ?_
        obtain ⟨x3, hx3, h⟩ := lett_of h
        refine Wp.region hΓ [] [(7, .val (.int .i64 ((mlook (mput ([] : List (MK × Int)) (.inl r2.1) (IntKind.wrap .i64 (((mlook ([] : List (MK × Int)) (.inl r2.1)).getD 0) + 1))) (.inl r2.1)).getD 0)))] [] [0, 2, 3, 4, 5, 35] [2, 3, 9, 4182, 4183, 1000000] (K' := [(0, .own 1000000 0), (2, .own 2 0), (3, .own 3 0), (4, .mp 9), (5, .str r2.1), (35, .val (.bool (bif r2.2.f_bad then true else (decide (((mlook (mput ([] : List (MK × Int)) (.inl r2.1) (IntKind.wrap .i64 (((mlook ([] : List (MK × Int)) (.inl r2.1)).getD 0) + 1))) (.inl r2.1)).getD 0) > 1)))))]) (L' := [(2, 25, [.val (.int .i64 b2.f_Kind), .str b2.f_Text, .recs (α := List UInt8) [] E_string b2.f_Keys, .tree (α := S_api_Node) (S_api_Node.mk 0 [] [] []) pre_S_api_Node kids_S_api_Node b2.f_Kids]), (3, 25, [.val (.int .i64 3), .str [], .row 4182, .row 4183]), (9, 70, [.mapc none false (α := Int) 0 E_i64 (mput ([] : List (MK × Int)) (.inl r2.1) (IntKind.wrap .i64 (((mlook ([] : List (MK × Int)) (.inl r2.1)).getD 0) + 1)))]), (4182, 9, [.rowc false (α := List UInt8) [] E_string []]), (4183, 25, [.rowc false (α := S_api_Node) (S_api_Node.mk 0 [] [] []) E_api_Node []]), (1000000, 40, [.str r2.2.f_s, .val (.int .i64 r2.2.f_at), .val (.bool r2.2.f_bad)])]) (ob := [((r2.2.f_bad == false) = true → LookOb false E_i64 (mput ([] : List (MK × Int)) (.inl r2.1) (IntKind.wrap .i64 (((mlook ([] : List (MK × Int)) (.inl r2.1)).getD 0) + 1))) (.inl r2.1) [.val (.int .i64 0)] (.val (.int .i64 ((mlook (mput ([] : List (MK × Int)) (.inl r2.1) (IntKind.wrap .i64 (((mlook ([] : List (MK × Int)) (.inl r2.1)).getD 0) + 1))) (.inl r2.1)).getD 0))))]) (by kernel_rfl) (AllP.cons (fun _ => ⟨0, Weaks.of_eq (by kernel_rfl), by kernel_rfl⟩) AllP.nil) ?_
        refine To.eq (K' := [(0, .own 1000000 0), (2, .own 2 0), (3, .own 3 0), (4, .mp 9), (5, .str r2.1), (35, .val (.bool x3))]) (L' := [(2, 25, [.val (.int .i64 b2.f_Kind), .str b2.f_Text, .recs (α := List UInt8) [] E_string b2.f_Keys, .tree (α := S_api_Node) (S_api_Node.mk 0 [] [] []) pre_S_api_Node kids_S_api_Node b2.f_Kids]), (3, 25, [.val (.int .i64 3), .str [], .row 4182, .row 4183]), (9, 70, [.mapc none false (α := Int) 0 E_i64 (mput ([] : List (MK × Int)) (.inl r2.1) (IntKind.wrap .i64 (((mlook ([] : List (MK × Int)) (.inl r2.1)).getD 0) + 1)))]), (4182, 9, [.rowc false (α := List UInt8) [] E_string []]), (4183, 25, [.rowc false (α := S_api_Node) (S_api_Node.mk 0 [] [] []) E_api_Node []]), (1000000, 40, [.str r2.2.f_s, .val (.int .i64 r2.2.f_at), .val (.bool r2.2.f_bad)])]) (by cases hx3; rfl) (by cases hx3; rfl) ?_
        refine To.thenN ?_
        refine Wp.cond (b := x3) (by kernel_rfl) (fun hb => ?_) (fun hb => ?_)
        · replace h := if_t hb h
          refine Wp.seq ?_
          refine Wp.region hΓ [] [] [] [2, 3] [2, 3, 4182, 4183, 1000000] (K' := [(2, .own 2 0), (3, .own 3 0)]) (L' := [(2, 25, [.val (.int .i64 b2.f_Kind), .str b2.f_Text, .recs (α := List UInt8) [] E_string b2.f_Keys, .tree (α := S_api_Node) (S_api_Node.mk 0 [] [] []) pre_S_api_Node kids_S_api_Node b2.f_Kids]), (3, 25, [.val (.int .i64 3), .str [], .row 4182, .row 4183]), (4182, 9, [.rowc false (α := List UInt8) [] E_string []]), (4183, 25, [.rowc false (α := S_api_Node) (S_api_Node.mk 0 [] [] []) E_api_Node []]), (1000000, 40, [.str r2.2.f_s, .val (.int .i64 r2.2.f_at), .val (.bool true)])]) (ob := []) (by kernel_rfl) AllP.nil ?_
          refine To.thenN ?_
          refine Wp.seq ?_
          refine Wp.region hΓ [] [] [] [2] [2, 4182, 4183, 1000000] (K' := [(2, .own 2 0)]) (L' := [(2, 25, [.val (.int .i64 3), .str [], .row 4182, .row 4183]), (4182, 9, [.rowc false (α := List UInt8) [] E_string []]), (4183, 25, [.rowc false (α := S_api_Node) (S_api_Node.mk 0 [] [] []) E_api_Node []]), (1000000, 40, [.str r2.2.f_s, .val (.int .i64 r2.2.f_at), .val (.bool true)])]) (ob := []) (by kernel_rfl) AllP.nil ?_
          refine To.thenN ?_
          refine Wp.ret ?_
          refine To.thenR ?_
          refine To.goesO (.inr (.inl rfl)) ?_
          refine To.keep (kk := [2]) (kl := [2, 4182, 4183, 1000000]) (K' := [(2, .own 2 0)]) (L' := [(2, 25, [.val (.int .i64 3), .str [], .row 4182, .row 4183]), (4182, 9, [.rowc false (α := List UInt8) [] E_string []]), (4183, 25, [.rowc false (α := S_api_Node) (S_api_Node.mk 0 [] [] []) E_api_Node []]), (1000000, 40, [.str r2.2.f_s, .val (.int .i64 r2.2.f_at), .val (.bool true)])]) (by kernel_rfl) (by kernel_rfl) ?_
          refine To.pre (St.rename 4182 4122 (by decide) (K' := [(2, .own 2 0)]) (L' := [(2, 25, [.val (.int .i64 3), .str [], .row 4122, .row 4183]), (4122, 9, [.rowc false (α := List UInt8) [] E_string []]), (4183, 25, [.rowc false (α := S_api_Node) (S_api_Node.mk 0 [] [] []) E_api_Node []]), (1000000, 40, [.str r2.2.f_s, .val (.int .i64 r2.2.f_at), .val (.bool true)])]) (by kernel_rfl) (by kernel_rfl) (by kernel_rfl)) ?_
          refine To.keep (kk := [2]) (kl := [2, 4122, 4183, 1000000]) (K' := [(2, .own 2 0)]) (L' := [(2, 25, [.val (.int .i64 3), .str [], .row 4122, .row 4183]), (4122, 9, [.rowc false (α := List UInt8) [] E_string []]), (4183, 25, [.rowc false (α := S_api_Node) (S_api_Node.mk 0 [] [] []) E_api_Node []]), (1000000, 40, [.str r2.2.f_s, .val (.int .i64 r2.2.f_at), .val (.bool true)])]) (by kernel_rfl) (by kernel_rfl) ?_
          refine To.pre (St.rename 4183 4123 (by decide) (K' := [(2, .own 2 0)]) (L' := [(2, 25, [.val (.int .i64 3), .str [], .row 4122, .row 4123]), (4122, 9, [.rowc false (α := List UInt8) [] E_string []]), (4123, 25, [.rowc false (α := S_api_Node) (S_api_Node.mk 0 [] [] []) E_api_Node []]), (1000000, 40, [.str r2.2.f_s, .val (.int .i64 r2.2.f_at), .val (.bool true)])]) (by kernel_rfl) (by kernel_rfl) (by kernel_rfl)) ?_
          refine To.keep (kk := [2]) (kl := [2, 4122, 4123, 1000000]) (K' := [(2, .own 2 0)]) (L' := [(2, 25, [.val (.int .i64 3), .str [], .row 4122, .row 4123]), (4122, 9, [.rowc false (α := List UInt8) [] E_string []]), (4123, 25, [.rowc false (α := S_api_Node) (S_api_Node.mk 0 [] [] []) E_api_Node []]), (1000000, 40, [.str r2.2.f_s, .val (.int .i64 r2.2.f_at), .val (.bool true)])]) (by kernel_rfl) (by kernel_rfl) ?_
          cases h
          exact hQ
        · replace h := if_f hb h
          refine Wp.skip ?_
          refine To.thenN ?_
          refine Wp.seq ?_
          obtain ⟨r4, hr4, h⟩ := bind_of h
          refine Wp.region hΓ [] [] [(1, ⟨[(1000000, 1000000)], [(1000000, 1000000)], [.own 1000000 0], [(1000000, 40, [.str r2.2.f_s, .val (.int .i64 r2.2.f_at), .val (.bool r2.2.f_bad)])], .tup [.agg [.val (.int .i64 r4.1.f_Kind), .str r4.1.f_Text, .recs (α := List UInt8) [] E_string r4.1.f_Keys, .tree (α := S_api_Node) (S_api_Node.mk 0 [] [] []) pre_S_api_Node kids_S_api_Node r4.1.f_Kids], .val (.bool r4.2.1)], [(1000000, 40, [.str r4.2.2.f_s, .val (.int .i64 r4.2.2.f_at), .val (.bool r4.2.2.f_bad)])]⟩)] [0, 2, 3, 4, 5, 6] [2, 3, 6, 9, 4182, 4183, 1000000] (K' := [(0, .own 1000000 0), (2, .own 2 0), (3, .own 3 0), (4, .mp 9), (5, .str r2.1), (6, .own 6 0)]) (L' := [(2, 25, [.val (.int .i64 b2.f_Kind), .str b2.f_Text, .recs (α := List UInt8) [] E_string b2.f_Keys, .tree (α := S_api_Node) (S_api_Node.mk 0 [] [] []) pre_S_api_Node kids_S_api_Node b2.f_Kids]), (3, 25, [.val (.int .i64 3), .str [], .row 4182, .row 4183]), (6, 25, [.val (.int .i64 r4.1.f_Kind), .str r4.1.f_Text, .recs (α := List UInt8) [] E_string r4.1.f_Keys, .tree (α := S_api_Node) (S_api_Node.mk 0 [] [] []) pre_S_api_Node kids_S_api_Node r4.1.f_Kids]), (9, 70, [.mapc none false (α := Int) 0 E_i64 (mput ([] : List (MK × Int)) (.inl r2.1) (IntKind.wrap .i64 (((mlook ([] : List (MK × Int)) (.inl r2.1)).getD 0) + 1)))]), (4182, 9, [.rowc false (α := List UInt8) [] E_string []]), (4183, 25, [.rowc false (α := S_api_Node) (S_api_Node.mk 0 [] [] []) E_api_Node []]), (1000000, 40, [.str r4.2.2.f_s, .val (.int .i64 r4.2.2.f_at), .val (.bool r4.2.2.f_bad)])]) (ob := [CbOb (CallsB Tryd.prog) 17 [.own 1000000 0] [some (40, [.str r2.2.f_s, .val (.int .i64 r2.2.f_at), .val (.bool r2.2.f_bad)])] ⟨[(1000000, 1000000)], [(1000000, 1000000)], [.own 1000000 0], [(1000000, 40, [.str r2.2.f_s, .val (.int .i64 r2.2.f_at), .val (.bool r2.2.f_bad)])], .tup [.agg [.val (.int .i64 r4.1.f_Kind), .str r4.1.f_Text, .recs (α := List UInt8) [] E_string r4.1.f_Keys, .tree (α := S_api_Node) (S_api_Node.mk 0 [] [] []) pre_S_api_Node kids_S_api_Node r4.1.f_Kids], .val (.bool r4.2.1)], [(1000000, 40, [.str r4.2.2.f_s, .val (.int .i64 r4.2.2.f_at), .val (.bool r4.2.2.f_bad)])]⟩]) (by kernel_rfl) (AllP.cons (⟨(hR_flow_reader_value__o0 r2.2 _ hr4), by kernel_rfl, by kernel_rfl⟩) AllP.nil) ?_
          refine To.thenN ?_
          refine Wp.seq ?_
          obtain ⟨hc7, h⟩ := chk_of h
          obtain ⟨hc8, h⟩ := chk_of h
          refine Wp.regionO hm hΓ [] [(3, .recs (α := List UInt8) [] E_string [r2.1]), (4, .recs (α := List UInt8) [] E_string (([] : List (List UInt8)) ++ ([r2.1] : List (List UInt8)))), (8, .recs (α := S_api_Node) (S_api_Node.mk 0 [] [] []) E_api_Node [r4.1]), (9, .recs (α := S_api_Node) (S_api_Node.mk 0 [] [] []) E_api_Node (([] : List (S_api_Node)) ++ ([r4.1] : List (S_api_Node))))] [] [0, 2, 3, 4, 5, 6, 45, 46, 47, 48, 49, 50, 51, 52, 53, 54, 55, 56] [2, 3, 6, 9, 48, 49, 53, 54, 4182, 4183, 1000000] [0, 2, 3, 4] [2, 3, 9, 49, 54, 1000000] (K' := [(0, .own 1000000 0), (2, .own 2 0), (3, .own 3 0), (4, .mp 9)]) (L' := [(2, 25, [.val (.int .i64 b2.f_Kind), .str b2.f_Text, .recs (α := List UInt8) [] E_string b2.f_Keys, .tree (α := S_api_Node) (S_api_Node.mk 0 [] [] []) pre_S_api_Node kids_S_api_Node b2.f_Kids]), (3, 25, [.val (.int .i64 3), .str [], .row 49, .row 54]), (9, 70, [.mapc none false (α := Int) 0 E_i64 (mput ([] : List (MK × Int)) (.inl r2.1) (IntKind.wrap .i64 (((mlook ([] : List (MK × Int)) (.inl r2.1)).getD 0) + 1)))]), (49, 9, [.rowc false (α := List UInt8) [] E_string (([] : List (List UInt8)) ++ ([r2.1] : List (List UInt8)))]), (54, 25, [.rowc false (α := S_api_Node) (S_api_Node.mk 0 [] [] []) E_api_Node (([] : List (S_api_Node)) ++ ([r4.1] : List (S_api_Node)))]), (1000000, 40, [.str r4.2.2.f_s, .val (.int .i64 r4.2.2.f_at), .val (.bool r4.2.2.f_bad)])]) (ob := [(MkOb 1 [.str r2.1] 1 (.recs (α := List UInt8) [] E_string [r2.1]) ∧ GoodR (.recs (α := List UInt8) [] E_string [r2.1])), (decide ((List.length ([] : List (List UInt8)) + List.length ([r2.1] : List (List UInt8))) * (16 + 1) ≤ limit)) = true, (AppOb [] E_string ([] : List (List UInt8)) (List.flatMap E_string ([r2.1] : List (List UInt8))) (List.length ([r2.1] : List (List UInt8))) (.recs (α := List UInt8) [] E_string (([] : List (List UInt8)) ++ ([r2.1] : List (List UInt8)))) ∧ GoodR (.recs (α := List UInt8) [] E_string (([] : List (List UInt8)) ++ ([r2.1] : List (List UInt8))))), (MkOb 4 [.val (.int .i64 r4.1.f_Kind), .str r4.1.f_Text, .recs (α := List UInt8) [] E_string r4.1.f_Keys, .tree (α := S_api_Node) (S_api_Node.mk 0 [] [] []) pre_S_api_Node kids_S_api_Node r4.1.f_Kids] 1 (.recs (α := S_api_Node) (S_api_Node.mk 0 [] [] []) E_api_Node [r4.1]) ∧ GoodR (.recs (α := S_api_Node) (S_api_Node.mk 0 [] [] []) E_api_Node [r4.1])), (decide ((List.length ([] : List (S_api_Node)) + List.length ([r4.1] : List (S_api_Node))) * (72 + 1) ≤ limit)) = true, (AppOb (S_api_Node.mk 0 [] [] []) E_api_Node ([] : List (S_api_Node)) (List.flatMap E_api_Node ([r4.1] : List (S_api_Node))) (List.length ([r4.1] : List (S_api_Node))) (.recs (α := S_api_Node) (S_api_Node.mk 0 [] [] []) E_api_Node (([] : List (S_api_Node)) ++ ([r4.1] : List (S_api_Node)))) ∧ GoodR (.recs (α := S_api_Node) (S_api_Node.mk 0 [] [] []) E_api_Node (([] : List (S_api_Node)) ++ ([r4.1] : List (S_api_Node)))))]) (by kernel_rfl) (by kernel_rfl) (AllP.cons (mkOb (by kernel_rfl) rfl (by kernel_rfl) (good_E_string _)) (AllP.cons hc7 (AllP.cons (appOb rfl rfl (good_E_string _)) (AllP.cons (mkOb (by kernel_rfl) rfl (by kernel_rfl) (good_E_api_Node _)) (AllP.cons hc8 (AllP.cons (appOb rfl rfl (good_E_api_Node _)) AllP.nil)))))) ?_
          refine To.thenN ?_
          refine Wp.seq ?_
          refine Wp.seq ?_
          refine Wp.region hΓ [] [] [] [0, 2, 3, 4, 60] [2, 3, 9, 49, 54, 1000000] (K' := [(0, .own 1000000 0), (2, .own 2 0), (3, .own 3 0), (4, .mp 9), (60, .val (.bool r4.2.2.f_bad))]) (L' := [(2, 25, [.val (.int .i64 b2.f_Kind), .str b2.f_Text, .recs (α := List UInt8) [] E_string b2.f_Keys, .tree (α := S_api_Node) (S_api_Node.mk 0 [] [] []) pre_S_api_Node kids_S_api_Node b2.f_Kids]), (3, 25, [.val (.int .i64 3), .str [], .row 49, .row 54]), (9, 70, [.mapc none false (α := Int) 0 E_i64 (mput ([] : List (MK × Int)) (.inl r2.1) (IntKind.wrap .i64 (((mlook ([] : List (MK × Int)) (.inl r2.1)).getD 0) + 1)))]), (49, 9, [.rowc false (α := List UInt8) [] E_string (([] : List (List UInt8)) ++ ([r2.1] : List (List UInt8)))]), (54, 25, [.rowc false (α := S_api_Node) (S_api_Node.mk 0 [] [] []) E_api_Node (([] : List (S_api_Node)) ++ ([r4.1] : List (S_api_Node)))]), (1000000, 40, [.str r4.2.2.f_s, .val (.int .i64 r4.2.2.f_at), .val (.bool r4.2.2.f_bad)])]) (ob := []) (by kernel_rfl) AllP.nil ?_
          refine To.thenN ?_
          refine Wp.cond (b := r4.2.2.f_bad) (by kernel_rfl) (fun hb => ?_) (fun hb => ?_)
          · replace h := if_t hb h
            refine Wp.seq ?_
            refine Wp.region hΓ [] [] [] [2] [2, 49, 54, 1000000] (K' := [(2, .own 2 0)]) (L' := [(2, 25, [.val (.int .i64 3), .str [], .row 49, .row 54]), (49, 9, [.rowc false (α := List UInt8) [] E_string (([] : List (List UInt8)) ++ ([r2.1] : List (List UInt8)))]), (54, 25, [.rowc false (α := S_api_Node) (S_api_Node.mk 0 [] [] []) E_api_Node (([] : List (S_api_Node)) ++ ([r4.1] : List (S_api_Node)))]), (1000000, 40, [.str r4.2.2.f_s, .val (.int .i64 r4.2.2.f_at), .val (.bool r4.2.2.f_bad)])]) (ob := []) (by kernel_rfl) AllP.nil ?_
            refine To.thenN ?_
            refine Wp.ret ?_
            refine To.thenR ?_
            refine To.goesO (.inr (.inl rfl)) ?_
            refine To.keep (kk := [2]) (kl := [2, 49, 54, 1000000]) (K' := [(2, .own 2 0)]) (L' := [(2, 25, [.val (.int .i64 3), .str [], .row 49, .row 54]), (49, 9, [.rowc false (α := List UInt8) [] E_string (([] : List (List UInt8)) ++ ([r2.1] : List (List UInt8)))]), (54, 25, [.rowc false (α := S_api_Node) (S_api_Node.mk 0 [] [] []) E_api_Node (([] : List (S_api_Node)) ++ ([r4.1] : List (S_api_Node)))]), (1000000, 40, [.str r4.2.2.f_s, .val (.int .i64 r4.2.2.f_at), .val (.bool r4.2.2.f_bad)])]) (by kernel_rfl) (by kernel_rfl) ?_
            refine To.pre (St.rename 49 4122 (by decide) (K' := [(2, .own 2 0)]) (L' := [(2, 25, [.val (.int .i64 3), .str [], .row 4122, .row 54]), (4122, 9, [.rowc false (α := List UInt8) [] E_string (([] : List (List UInt8)) ++ ([r2.1] : List (List UInt8)))]), (54, 25, [.rowc false (α := S_api_Node) (S_api_Node.mk 0 [] [] []) E_api_Node (([] : List (S_api_Node)) ++ ([r4.1] : List (S_api_Node)))]), (1000000, 40, [.str r4.2.2.f_s, .val (.int .i64 r4.2.2.f_at), .val (.bool r4.2.2.f_bad)])]) (by kernel_rfl) (by kernel_rfl) (by kernel_rfl)) ?_
            refine To.keep (kk := [2]) (kl := [2, 54, 4122, 1000000]) (K' := [(2, .own 2 0)]) (L' := [(2, 25, [.val (.int .i64 3), .str [], .row 4122, .row 54]), (54, 25, [.rowc false (α := S_api_Node) (S_api_Node.mk 0 [] [] []) E_api_Node (([] : List (S_api_Node)) ++ ([r4.1] : List (S_api_Node)))]), (4122, 9, [.rowc false (α := List UInt8) [] E_string (([] : List (List UInt8)) ++ ([r2.1] : List (List UInt8)))]), (1000000, 40, [.str r4.2.2.f_s, .val (.int .i64 r4.2.2.f_at), .val (.bool r4.2.2.f_bad)])]) (by kernel_rfl) (by kernel_rfl) ?_
            refine To.pre (St.rename 54 4123 (by decide) (K' := [(2, .own 2 0)]) (L' := [(2, 25, [.val (.int .i64 3), .str [], .row 4122, .row 4123]), (4123, 25, [.rowc false (α := S_api_Node) (S_api_Node.mk 0 [] [] []) E_api_Node (([] : List (S_api_Node)) ++ ([r4.1] : List (S_api_Node)))]), (4122, 9, [.rowc false (α := List UInt8) [] E_string (([] : List (List UInt8)) ++ ([r2.1] : List (List UInt8)))]), (1000000, 40, [.str r4.2.2.f_s, .val (.int .i64 r4.2.2.f_at), .val (.bool r4.2.2.f_bad)])]) (by kernel_rfl) (by kernel_rfl) (by kernel_rfl)) ?_
            refine To.keep (kk := [2]) (kl := [2, 4122, 4123, 1000000]) (K' := [(2, .own 2 0)]) (L' := [(2, 25, [.val (.int .i64 3), .str [], .row 4122, .row 4123]), (4122, 9, [.rowc false (α := List UInt8) [] E_string (([] : List (List UInt8)) ++ ([r2.1] : List (List UInt8)))]), (4123, 25, [.rowc false (α := S_api_Node) (S_api_Node.mk 0 [] [] []) E_api_Node (([] : List (S_api_Node)) ++ ([r4.1] : List (S_api_Node)))]), (1000000, 40, [.str r4.2.2.f_s, .val (.int .i64 r4.2.2.f_at), .val (.bool r4.2.2.f_bad)])]) (by kernel_rfl) (by kernel_rfl) ?_
            cases h
            exact hQ
          · replace h := if_f hb h
            refine Wp.skip ?_
            refine To.thenN ?_
            refine Wp.seq ?_
            refine Wp.seq ?_
            obtain ⟨r5, hr5, h⟩ := bind_of h
            refine Wp.region hΓ [] [] [(1, ⟨[(1000000, 1000000)], [(1000000, 1000000)], [.own 1000000 0, .val (.int .u8 44)], [(1000000, 40, [.str r4.2.2.f_s, .val (.int .i64 r4.2.2.f_at), .val (.bool r4.2.2.f_bad)])], .val (.bool r5.1), [(1000000, 40, [.str r5.2.f_s, .val (.int .i64 r5.2.f_at), .val (.bool r5.2.f_bad)])]⟩)] [0, 2, 3, 4, 63] [2, 3, 9, 49, 54, 1000000] (K' := [(0, .own 1000000 0), (2, .own 2 0), (3, .own 3 0), (4, .mp 9), (63, .val (.bool r5.1))]) (L' := [(2, 25, [.val (.int .i64 b2.f_Kind), .str b2.f_Text, .recs (α := List UInt8) [] E_string b2.f_Keys, .tree (α := S_api_Node) (S_api_Node.mk 0 [] [] []) pre_S_api_Node kids_S_api_Node b2.f_Kids]), (3, 25, [.val (.int .i64 3), .str [], .row 49, .row 54]), (9, 70, [.mapc none false (α := Int) 0 E_i64 (mput ([] : List (MK × Int)) (.inl r2.1) (IntKind.wrap .i64 (((mlook ([] : List (MK × Int)) (.inl r2.1)).getD 0) + 1)))]), (49, 9, [.rowc false (α := List UInt8) [] E_string (([] : List (List UInt8)) ++ ([r2.1] : List (List UInt8)))]), (54, 25, [.rowc false (α := S_api_Node) (S_api_Node.mk 0 [] [] []) E_api_Node (([] : List (S_api_Node)) ++ ([r4.1] : List (S_api_Node)))]), (1000000, 40, [.str r5.2.f_s, .val (.int .i64 r5.2.f_at), .val (.bool r5.2.f_bad)])]) (ob := [CbOb (CallsB Tryd.prog) 46 [.own 1000000 0, .val (.int .u8 44)] [some (40, [.str r4.2.2.f_s, .val (.int .i64 r4.2.2.f_at), .val (.bool r4.2.2.f_bad)])] ⟨[(1000000, 1000000)], [(1000000, 1000000)], [.own 1000000 0, .val (.int .u8 44)], [(1000000, 40, [.str r4.2.2.f_s, .val (.int .i64 r4.2.2.f_at), .val (.bool r4.2.2.f_bad)])], .val (.bool r5.1), [(1000000, 40, [.str r5.2.f_s, .val (.int .i64 r5.2.f_at), .val (.bool r5.2.f_bad)])]⟩]) (by kernel_rfl) (AllP.cons (⟨(ok_flow_reader_take__o0 n 44 r4.2.2 _ hr5), by kernel_rfl, by kernel_rfl⟩) AllP.nil) ?_
            refine To.thenN ?_
            refine Wp.cond (b := r5.1) (by kernel_rfl) (fun hb => ?_) (fun hb => ?_)
            · replace h := if_t hb h
              refine Wp.goto ?_
              refine To.thenG ?_
              refine To.keep (kk := [0, 2, 3, 4]) (kl := [2, 3, 9, 49, 54, 1000000]) (K' := [(0, .own 1000000 0), (2, .own 2 0), (3, .own 3 0), (4, .mp 9)]) (L' := [(2, 25, [.val (.int .i64 b2.f_Kind), .str b2.f_Text, .recs (α := List UInt8) [] E_string b2.f_Keys, .tree (α := S_api_Node) (S_api_Node.mk 0 [] [] []) pre_S_api_Node kids_S_api_Node b2.f_Kids]), (3, 25, [.val (.int .i64 3), .str [], .row 49, .row 54]), (9, 70, [.mapc none false (α := Int) 0 E_i64 (mput ([] : List (MK × Int)) (.inl r2.1) (IntKind.wrap .i64 (((mlook ([] : List (MK × Int)) (.inl r2.1)).getD 0) + 1)))]), (49, 9, [.rowc false (α := List UInt8) [] E_string (([] : List (List UInt8)) ++ ([r2.1] : List (List UInt8)))]), (54, 25, [.rowc false (α := S_api_Node) (S_api_Node.mk 0 [] [] []) E_api_Node (([] : List (S_api_Node)) ++ ([r4.1] : List (S_api_Node)))]), (1000000, 40, [.str r5.2.f_s, .val (.int .i64 r5.2.f_at), .val (.bool r5.2.f_bad)])]) (by kernel_rfl) (by kernel_rfl) ?_
              refine To.pre (St.rename 49 4182 (by decide) (K' := [(0, .own 1000000 0), (2, .own 2 0), (3, .own 3 0), (4, .mp 9)]) (L' := [(2, 25, [.val (.int .i64 b2.f_Kind), .str b2.f_Text, .recs (α := List UInt8) [] E_string b2.f_Keys, .tree (α := S_api_Node) (S_api_Node.mk 0 [] [] []) pre_S_api_Node kids_S_api_Node b2.f_Kids]), (3, 25, [.val (.int .i64 3), .str [], .row 4182, .row 54]), (9, 70, [.mapc none false (α := Int) 0 E_i64 (mput ([] : List (MK × Int)) (.inl r2.1) (IntKind.wrap .i64 (((mlook ([] : List (MK × Int)) (.inl r2.1)).getD 0) + 1)))]), (4182, 9, [.rowc false (α := List UInt8) [] E_string (([] : List (List UInt8)) ++ ([r2.1] : List (List UInt8)))]), (54, 25, [.rowc false (α := S_api_Node) (S_api_Node.mk 0 [] [] []) E_api_Node (([] : List (S_api_Node)) ++ ([r4.1] : List (S_api_Node)))]), (1000000, 40, [.str r5.2.f_s, .val (.int .i64 r5.2.f_at), .val (.bool r5.2.f_bad)])]) (by kernel_rfl) (by kernel_rfl) (by kernel_rfl)) ?_
              refine To.keep (kk := [0, 2, 3, 4]) (kl := [2, 3, 9, 54, 4182, 1000000]) (K' := [(0, .own 1000000 0), (2, .own 2 0), (3, .own 3 0), (4, .mp 9)]) (L' := [(2, 25, [.val (.int .i64 b2.f_Kind), .str b2.f_Text, .recs (α := List UInt8) [] E_string b2.f_Keys, .tree (α := S_api_Node) (S_api_Node.mk 0 [] [] []) pre_S_api_Node kids_S_api_Node b2.f_Kids]), (3, 25, [.val (.int .i64 3), .str [], .row 4182, .row 54]), (9, 70, [.mapc none false (α := Int) 0 E_i64 (mput ([] : List (MK × Int)) (.inl r2.1) (IntKind.wrap .i64 (((mlook ([] : List (MK × Int)) (.inl r2.1)).getD 0) + 1)))]), (54, 25, [.rowc false (α := S_api_Node) (S_api_Node.mk 0 [] [] []) E_api_Node (([] : List (S_api_Node)) ++ ([r4.1] : List (S_api_Node)))]), (4182, 9, [.rowc false (α := List UInt8) [] E_string (([] : List (List UInt8)) ++ ([r2.1] : List (List UInt8)))]), (1000000, 40, [.str r5.2.f_s, .val (.int .i64 r5.2.f_at), .val (.bool r5.2.f_bad)])]) (by kernel_rfl) (by kernel_rfl) ?_
              refine To.pre (St.rename 54 4183 (by decide) (K' := [(0, .own 1000000 0), (2, .own 2 0), (3, .own 3 0), (4, .mp 9)]) (L' := [(2, 25, [.val (.int .i64 b2.f_Kind), .str b2.f_Text, .recs (α := List UInt8) [] E_string b2.f_Keys, .tree (α := S_api_Node) (S_api_Node.mk 0 [] [] []) pre_S_api_Node kids_S_api_Node b2.f_Kids]), (3, 25, [.val (.int .i64 3), .str [], .row 4182, .row 4183]), (9, 70, [.mapc none false (α := Int) 0 E_i64 (mput ([] : List (MK × Int)) (.inl r2.1) (IntKind.wrap .i64 (((mlook ([] : List (MK × Int)) (.inl r2.1)).getD 0) + 1)))]), (4183, 25, [.rowc false (α := S_api_Node) (S_api_Node.mk 0 [] [] []) E_api_Node (([] : List (S_api_Node)) ++ ([r4.1] : List (S_api_Node)))]), (4182, 9, [.rowc false (α := List UInt8) [] E_string (([] : List (List UInt8)) ++ ([r2.1] : List (List UInt8)))]), (1000000, 40, [.str r5.2.f_s, .val (.int .i64 r5.2.f_at), .val (.bool r5.2.f_bad)])]) (by kernel_rfl) (by kernel_rfl) (by kernel_rfl)) ?_
              refine To.keep (kk := [0, 2, 3, 4]) (kl := [2, 3, 9, 4182, 4183, 1000000]) (K' := [(0, .own 1000000 0), (2, .own 2 0), (3, .own 3 0), (4, .mp 9)]) (L' := [(2, 25, [.val (.int .i64 b2.f_Kind), .str b2.f_Text, .recs (α := List UInt8) [] E_string b2.f_Keys, .tree (α := S_api_Node) (S_api_Node.mk 0 [] [] []) pre_S_api_Node kids_S_api_Node b2.f_Kids]), (3, 25, [.val (.int .i64 3), .str [], .row 4182, .row 4183]), (9, 70, [.mapc none false (α := Int) 0 E_i64 (mput ([] : List (MK × Int)) (.inl r2.1) (IntKind.wrap .i64 (((mlook ([] : List (MK × Int)) (.inl r2.1)).getD 0) + 1)))]), (4182, 9, [.rowc false (α := List UInt8) [] E_string (([] : List (List UInt8)) ++ ([r2.1] : List (List UInt8)))]), (4183, 25, [.rowc false (α := S_api_Node) (S_api_Node.mk 0 [] [] []) E_api_Node (([] : List (S_api_Node)) ++ ([r4.1] : List (S_api_Node)))]), (1000000, 40, [.str r5.2.f_s, .val (.int .i64 r5.2.f_at), .val (.bool r5.2.f_bad)])]) (by kernel_rfl) (by kernel_rfl) ?_
              refine To.goto (rest := cG 0 (cB (cF Tryd.f31))) (by kernel_rfl) ?_
              exact ih.2 b2 (S_api_Node.mk 3 [] (([] : List (List UInt8)) ++ ([r2.1] : List (List UInt8))) (([] : List (S_api_Node)) ++ ([r4.1] : List (S_api_Node)))) (mput ([] : List (MK × Int)) (.inl r2.1) (IntKind.wrap .i64 (((mlook ([] : List (MK × Int)) (.inl r2.1)).getD 0) + 1))) r5.2 _ h hQ
            · replace h := if_f hb h
              refine Wp.skip ?_
              refine To.thenN ?_
              refine Wp.seq ?_
              obtain ⟨r6, hr6, h⟩ := bind_of h
              refine Wp.region hΓ [] [] [(2, ⟨[(1000000, 1000000)], [(1000000, 1000000)], [.own 1000000 0, .val (.int .u8 125)], [(1000000, 40, [.str r5.2.f_s, .val (.int .i64 r5.2.f_at), .val (.bool r5.2.f_bad)])], .val (.bool r6.1), [(1000000, 40, [.str r6.2.f_s, .val (.int .i64 r6.2.f_at), .val (.bool r6.2.f_bad)])]⟩)] [2, 3] [2, 3, 49, 54, 1000000] (K' := [(2, .own 2 0), (3, .own 3 0)]) (L' := [(2, 25, [.val (.int .i64 b2.f_Kind), .str b2.f_Text, .recs (α := List UInt8) [] E_string b2.f_Keys, .tree (α := S_api_Node) (S_api_Node.mk 0 [] [] []) pre_S_api_Node kids_S_api_Node b2.f_Kids]), (3, 25, [.val (.int .i64 3), .str [], .row 49, .row 54]), (49, 9, [.rowc false (α := List UInt8) [] E_string (([] : List (List UInt8)) ++ ([r2.1] : List (List UInt8)))]), (54, 25, [.rowc false (α := S_api_Node) (S_api_Node.mk 0 [] [] []) E_api_Node (([] : List (S_api_Node)) ++ ([r4.1] : List (S_api_Node)))]), (1000000, 40, [.str r6.2.f_s, .val (.int .i64 r6.2.f_at), .val (.bool (!r6.1))])]) (ob := [CbOb (CallsB Tryd.prog) 46 [.own 1000000 0, .val (.int .u8 125)] [some (40, [.str r5.2.f_s, .val (.int .i64 r5.2.f_at), .val (.bool r5.2.f_bad)])] ⟨[(1000000, 1000000)], [(1000000, 1000000)], [.own 1000000 0, .val (.int .u8 125)], [(1000000, 40, [.str r5.2.f_s, .val (.int .i64 r5.2.f_at), .val (.bool r5.2.f_bad)])], .val (.bool r6.1), [(1000000, 40, [.str r6.2.f_s, .val (.int .i64 r6.2.f_at), .val (.bool r6.2.f_bad)])]⟩]) (by kernel_rfl) (AllP.cons (⟨(ok_flow_reader_take__o0 n 125 r5.2 _ hr6), by kernel_rfl, by kernel_rfl⟩) AllP.nil) ?_
              refine To.thenN ?_
              refine Wp.seq ?_
              refine Wp.region hΓ [] [] [] [2] [2, 49, 54, 1000000] (K' := [(2, .own 2 0)]) (L' := [(2, 25, [.val (.int .i64 3), .str [], .row 49, .row 54]), (49, 9, [.rowc false (α := List UInt8) [] E_string (([] : List (List UInt8)) ++ ([r2.1] : List (List UInt8)))]), (54, 25, [.rowc false (α := S_api_Node) (S_api_Node.mk 0 [] [] []) E_api_Node (([] : List (S_api_Node)) ++ ([r4.1] : List (S_api_Node)))]), (1000000, 40, [.str r6.2.f_s, .val (.int .i64 r6.2.f_at), .val (.bool (!r6.1))])]) (ob := []) (by kernel_rfl) AllP.nil ?_
              refine To.thenN ?_
              refine Wp.ret ?_
              refine To.goesO (.inr (.inl rfl)) ?_
              refine To.keep (kk := [2]) (kl := [2, 49, 54, 1000000]) (K' := [(2, .own 2 0)]) (L' := [(2, 25, [.val (.int .i64 3), .str [], .row 49, .row 54]), (49, 9, [.rowc false (α := List UInt8) [] E_string (([] : List (List UInt8)) ++ ([r2.1] : List (List UInt8)))]), (54, 25, [.rowc false (α := S_api_Node) (S_api_Node.mk 0 [] [] []) E_api_Node (([] : List (S_api_Node)) ++ ([r4.1] : List (S_api_Node)))]), (1000000, 40, [.str r6.2.f_s, .val (.int .i64 r6.2.f_at), .val (.bool (!r6.1))])]) (by kernel_rfl) (by kernel_rfl) ?_
              refine To.pre (St.rename 49 4122 (by decide) (K' := [(2, .own 2 0)]) (L' := [(2, 25, [.val (.int .i64 3), .str [], .row 4122, .row 54]), (4122, 9, [.rowc false (α := List UInt8) [] E_string (([] : List (List UInt8)) ++ ([r2.1] : List (List UInt8)))]), (54, 25, [.rowc false (α := S_api_Node) (S_api_Node.mk 0 [] [] []) E_api_Node (([] : List (S_api_Node)) ++ ([r4.1] : List (S_api_Node)))]), (1000000, 40, [.str r6.2.f_s, .val (.int .i64 r6.2.f_at), .val (.bool (!r6.1))])]) (by kernel_rfl) (by kernel_rfl) (by kernel_rfl)) ?_
              refine To.keep (kk := [2]) (kl := [2, 54, 4122, 1000000]) (K' := [(2, .own 2 0)]) (L' := [(2, 25, [.val (.int .i64 3), .str [], .row 4122, .row 54]), (54, 25, [.rowc false (α := S_api_Node) (S_api_Node.mk 0 [] [] []) E_api_Node (([] : List (S_api_Node)) ++ ([r4.1] : List (S_api_Node)))]), (4122, 9, [.rowc false (α := List UInt8) [] E_string (([] : List (List UInt8)) ++ ([r2.1] : List (List UInt8)))]), (1000000, 40, [.str r6.2.f_s, .val (.int .i64 r6.2.f_at), .val (.bool (!r6.1))])]) (by kernel_rfl) (by kernel_rfl) ?_
              refine To.pre (St.rename 54 4123 (by decide) (K' := [(2, .own 2 0)]) (L' := [(2, 25, [.val (.int .i64 3), .str [], .row 4122, .row 4123]), (4123, 25, [.rowc false (α := S_api_Node) (S_api_Node.mk 0 [] [] []) E_api_Node (([] : List (S_api_Node)) ++ ([r4.1] : List (S_api_Node)))]), (4122, 9, [.rowc false (α := List UInt8) [] E_string (([] : List (List UInt8)) ++ ([r2.1] : List (List UInt8)))]), (1000000, 40, [.str r6.2.f_s, .val (.int .i64 r6.2.f_at), .val (.bool (!r6.1))])]) (by kernel_rfl) (by kernel_rfl) (by kernel_rfl)) ?_
              refine To.keep (kk := [2]) (kl := [2, 4122, 4123, 1000000]) (K' := [(2, .own 2 0)]) (L' := [(2, 25, [.val (.int .i64 3), .str [], .row 4122, .row 4123]), (4122, 9, [.rowc false (α := List UInt8) [] E_string (([] : List (List UInt8)) ++ ([r2.1] : List (List UInt8)))]), (4123, 25, [.rowc false (α := S_api_Node) (S_api_Node.mk 0 [] [] []) E_api_Node (([] : List (S_api_Node)) ++ ([r4.1] : List (S_api_Node)))]), (1000000, 40, [.str r6.2.f_s, .val (.int .i64 r6.2.f_at), .val (.bool (!r6.1))])]) (by kernel_rfl) (by kernel_rfl) ?_
              cases h
              exact hQ
    · intro b2 b3 b9 b1000000 o h hQ
      rw [flow_reader_pairs__o0_g1_0] at h
      refine WG.pass ?_
      refine Wp.seq ?_
      refine Wp.skip ?_
      refine To.thenN ?_
      refine Wp.seq ?_
      obtain ⟨r1, hr1, h⟩ := bind_of h
      refine Wp.region hΓ [] [] [(1, ⟨[(1000000, 1000000)], [(1000000, 1000000)], [.own 1000000 0], [(1000000, 40, [.str b1000000.f_s, .val (.int .i64 b1000000.f_at), .val (.bool b1000000.f_bad)])], .str r1.1, [(1000000, 40, [.str r1.2.f_s, .val (.int .i64 r1.2.f_at), .val (.bool r1.2.f_bad)])]⟩)] [0, 2, 3, 4, 5] [2, 3, 9, 4182, 4183, 1000000] (K' := [(0, .own 1000000 0), (2, .own 2 0), (3, .own 3 0), (4, .mp 9), (5, .str r1.1)]) (L' := [(2, 25, [.val (.int .i64 b2.f_Kind), .str b2.f_Text, .recs (α := List UInt8) [] E_string b2.f_Keys, .tree (α := S_api_Node) (S_api_Node.mk 0 [] [] []) pre_S_api_Node kids_S_api_Node b2.f_Kids]), (3, 25, [.val (.int .i64 b3.f_Kind), .str b3.f_Text, .row 4182, .row 4183]), (9, 70, [.mapc none false (α := Int) 0 E_i64 b9]), (4182, 9, [.rowc false (α := List UInt8) [] E_string b3.f_Keys]), (4183, 25, [.rowc false (α := S_api_Node) (S_api_Node.mk 0 [] [] []) E_api_Node b3.f_Kids]), (1000000, 40, [.str r1.2.f_s, .val (.int .i64 r1.2.f_at), .val (.bool r1.2.f_bad)])]) (ob := [CbOb (CallsB Tryd.prog) 47 [.own 1000000 0] [some (40, [.str b1000000.f_s, .val (.int .i64 b1000000.f_at), .val (.bool b1000000.f_bad)])] ⟨[(1000000, 1000000)], [(1000000, 1000000)], [.own 1000000 0], [(1000000, 40, [.str b1000000.f_s, .val (.int .i64 b1000000.f_at), .val (.bool b1000000.f_bad)])], .str r1.1, [(1000000, 40, [.str r1.2.f_s, .val (.int .i64 r1.2.f_at), .val (.bool r1.2.f_bad)])]⟩]) (by kernel_rfl) (AllP.cons (⟨(ok_flow_reader_key__o0 n b1000000 _ hr1), by kernel_rfl, by kernel_rfl⟩) AllP.nil) ?_
      refine To.thenN ?_
      refine Wp.seq ?_
      refine Wp.seq ?_
      refine Wp.region hΓ [] [(2, .val (.int .i64 ((mlook b9 (.inl r1.1)).getD 0))), (4, .mapc none false (α := Int) 0 E_i64 (mput b9 (.inl r1.1) (IntKind.wrap .i64 (((mlook b9 (.inl r1.1)).getD 0) + 1))))] [] [0, 2, 3, 4, 5] [2, 3, 9, 4182, 4183, 1000000] (K' := [(0, .own 1000000 0), (2, .own 2 0), (3, .own 3 0), (4, .mp 9), (5, .str r1.1)]) (L' := [(2, 25, [.val (.int .i64 b2.f_Kind), .str b2.f_Text, .recs (α := List UInt8) [] E_string b2.f_Keys, .tree (α := S_api_Node) (S_api_Node.mk 0 [] [] []) pre_S_api_Node kids_S_api_Node b2.f_Kids]), (3, 25, [.val (.int .i64 b3.f_Kind), .str b3.f_Text, .row 4182, .row 4183]), (9, 70, [.mapc none false (α := Int) 0 E_i64 (mput b9 (.inl r1.1) (IntKind.wrap .i64 (((mlook b9 (.inl r1.1)).getD 0) + 1)))]), (4182, 9, [.rowc false (α := List UInt8) [] E_string b3.f_Keys]), (4183, 25, [.rowc false (α := S_api_Node) (S_api_Node.mk 0 [] [] []) E_api_Node b3.f_Kids]), (1000000, 40, [.str r1.2.f_s, .val (.int .i64 r1.2.f_at), .val (.bool r1.2.f_bad)])]) (ob := [(true = true → LookOb false E_i64 b9 (.inl r1.1) [.val (.int .i64 0)] (.val (.int .i64 ((mlook b9 (.inl r1.1)).getD 0)))), (∃ l' : List (MK × Int), (.mapc none false (α := Int) 0 E_i64 (mput b9 (.inl r1.1) (IntKind.wrap .i64 (((mlook b9 (.inl r1.1)).getD 0) + 1))) : D) = .mapc none false (α := Int) 0 E_i64 l' ∧ MsetOb E_i64 b9 (.inl r1.1) [.val (.int .i64 (IntKind.wrap .i64 (((mlook b9 (.inl r1.1)).getD 0) + 1)))] l')]) (by kernel_rfl) (AllP.cons (fun _ => ⟨0, Weaks.of_eq (by kernel_rfl), by kernel_rfl⟩) (AllP.cons (⟨_, rfl, (IntKind.wrap .i64 (((mlook b9 (.inl r1.1)).getD 0) + 1)), Weaks.of_eq (by kernel_rfl), rfl⟩) AllP.nil)) ?_
      refine To.thenN ?_
      refine Wp.seq ?_
      obtain ⟨x2, hx2, h⟩ := lett_of h
      refine Wp.region hΓ [] [(7, .val (.int .i64 ((mlook (mput b9 (.inl r1.1) (IntKind.wrap .i64 (((mlook b9 (.inl r1.1)).getD 0) + 1))) (.inl r1.1)).getD 0)))] [] [0, 2, 3, 4, 5, 35] [2, 3, 9, 4182, 4183, 1000000] (K' := [(0, .own 1000000 0), (2, .own 2 0), (3, .own 3 0), (4, .mp 9), (5, .str r1.1), (35, .val (.bool (bif r1.2.f_bad then true else (decide (((mlook (mput b9 (.inl r1.1) (IntKind.wrap .i64 (((mlook b9 (.inl r1.1)).getD 0) + 1))) (.inl r1.1)).getD 0) > 1)))))]) (L' := [(2, 25, [.val (.int .i64 b2.f_Kind), .str b2.f_Text, .recs (α := List UInt8) [] E_string b2.f_Keys, .tree (α := S_api_Node) (S_api_Node.mk 0 [] [] []) pre_S_api_Node kids_S_api_Node b2.f_Kids]), (3, 25, [.val (.int .i64 b3.f_Kind), .str b3.f_Text, .row 4182, .row 4183]), (9, 70, [.mapc none false (α := Int) 0 E_i64 (mput b9 (.inl r1.1) (IntKind.wrap .i64 (((mlook b9 (.inl r1.1)).getD 0) + 1)))]), (4182, 9, [.rowc false (α := List UInt8) [] E_string b3.f_Keys]), (4183, 25, [.rowc false (α := S_api_Node) (S_api_Node.mk 0 [] [] []) E_api_Node b3.f_Kids]), (1000000, 40, [.str r1.2.f_s, .val (.int .i64 r1.2.f_at), .val (.bool r1.2.f_bad)])]) (ob := [((r1.2.f_bad == false) = true → LookOb false E_i64 (mput b9 (.inl r1.1) (IntKind.wrap .i64 (((mlook b9 (.inl r1.1)).getD 0) + 1))) (.inl r1.1) [.val (.int .i64 0)] (.val (.int .i64 ((mlook (mput b9 (.inl r1.1) (IntKind.wrap .i64 (((mlook b9 (.inl r1.1)).getD 0) + 1))) (.inl r1.1)).getD 0))))]) (by kernel_rfl) (AllP.cons (fun _ => ⟨0, Weaks.of_eq (by kernel_rfl), by kernel_rfl⟩) AllP.nil) ?_
      refine To.eq (K' := [(0, .own 1000000 0), (2, .own 2 0), (3, .own 3 0), (4, .mp 9), (5, .str r1.1), (35, .val (.bool x2))]) (L' := [(2, 25, [.val (.int .i64 b2.f_Kind), .str b2.f_Text, .recs (α := List UInt8) [] E_string b2.f_Keys, .tree (α := S_api_Node) (S_api_Node.mk 0 [] [] []) pre_S_api_Node kids_S_api_Node b2.f_Kids]), (3, 25, [.val (.int .i64 b3.f_Kind), .str b3.f_Text, .row 4182, .row 4183]), (9, 70, [.mapc none false (α := Int) 0 E_i64 (mput b9 (.inl r1.1) (IntKind.wrap .i64 (((mlook b9 (.inl r1.1)).getD 0) + 1)))]), (4182, 9, [.rowc false (α := List UInt8) [] E_string b3.f_Keys]), (4183, 25, [.rowc false (α := S_api_Node) (S_api_Node.mk 0 [] [] []) E_api_Node b3.f_Kids]), (1000000, 40, [.str r1.2.f_s, .val (.int .i64 r1.2.f_at), .val (.bool r1.2.f_bad)])]) (by cases hx2; rfl) (by cases hx2; rfl) ?_
      refine To.thenN ?_
      refine Wp.cond (b := x2) (by kernel_rfl) (fun hb => ?_) (fun hb => ?_)
      · replace h := if_t hb h
        refine Wp.seq ?_
        refine Wp.region hΓ [] [] [] [2, 3] [2, 3, 4182, 4183, 1000000] (K' := [(2, .own 2 0), (3, .own 3 0)]) (L' := [(2, 25, [.val (.int .i64 b2.f_Kind), .str b2.f_Text, .recs (α := List UInt8) [] E_string b2.f_Keys, .tree (α := S_api_Node) (S_api_Node.mk 0 [] [] []) pre_S_api_Node kids_S_api_Node b2.f_Kids]), (3, 25, [.val (.int .i64 b3.f_Kind), .str b3.f_Text, .row 4182, .row 4183]), (4182, 9, [.rowc false (α := List UInt8) [] E_string b3.f_Keys]), (4183, 25, [.rowc false (α := S_api_Node) (S_api_Node.mk 0 [] [] []) E_api_Node b3.f_Kids]), (1000000, 40, [.str r1.2.f_s, .val (.int .i64 r1.2.f_at), .val (.bool true)])]) (ob := []) (by kernel_rfl) AllP.nil ?_
        refine To.thenN ?_
        refine Wp.seq ?_
        refine Wp.region hΓ [] [] [] [2] [2, 4182, 4183, 1000000] (K' := [(2, .own 2 0)]) (L' := [(2, 25, [.val (.int .i64 b3.f_Kind), .str b3.f_Text, .row 4182, .row 4183]), (4182, 9, [.rowc false (α := List UInt8) [] E_string b3.f_Keys]), (4183, 25, [.rowc false (α := S_api_Node) (S_api_Node.mk 0 [] [] []) E_api_Node b3.f_Kids]), (1000000, 40, [.str r1.2.f_s, .val (.int .i64 r1.2.f_at), .val (.bool true)])]) (ob := []) (by kernel_rfl) AllP.nil ?_
        refine To.thenN ?_
        refine Wp.ret ?_
        refine To.thenR ?_
        refine To.goesO (.inr (.inl rfl)) ?_
        refine To.keep (kk := [2]) (kl := [2, 4182, 4183, 1000000]) (K' := [(2, .own 2 0)]) (L' := [(2, 25, [.val (.int .i64 b3.f_Kind), .str b3.f_Text, .row 4182, .row 4183]), (4182, 9, [.rowc false (α := List UInt8) [] E_string b3.f_Keys]), (4183, 25, [.rowc false (α := S_api_Node) (S_api_Node.mk 0 [] [] []) E_api_Node b3.f_Kids]), (1000000, 40, [.str r1.2.f_s, .val (.int .i64 r1.2.f_at), .val (.bool true)])]) (by kernel_rfl) (by kernel_rfl) ?_
        refine To.pre (St.rename 4182 4122 (by decide) (K' := [(2, .own 2 0)]) (L' := [(2, 25, [.val (.int .i64 b3.f_Kind), .str b3.f_Text, .row 4122, .row 4183]), (4122, 9, [.rowc false (α := List UInt8) [] E_string b3.f_Keys]), (4183, 25, [.rowc false (α := S_api_Node) (S_api_Node.mk 0 [] [] []) E_api_Node b3.f_Kids]), (1000000, 40, [.str r1.2.f_s, .val (.int .i64 r1.2.f_at), .val (.bool true)])]) (by kernel_rfl) (by kernel_rfl) (by kernel_rfl)) ?_
        refine To.keep (kk := [2]) (kl := [2, 4122, 4183, 1000000]) (K' := [(2, .own 2 0)]) (L' := [(2, 25, [.val (.int .i64 b3.f_Kind), .str b3.f_Text, .row 4122, .row 4183]), (4122, 9, [.rowc false (α := List UInt8) [] E_string b3.f_Keys]), (4183, 25, [.rowc false (α := S_api_Node) (S_api_Node.mk 0 [] [] []) E_api_Node b3.f_Kids]), (1000000, 40, [.str r1.2.f_s, .val (.int .i64 r1.2.f_at), .val (.bool true)])]) (by kernel_rfl) (by kernel_rfl) ?_
        refine To.pre (St.rename 4183 4123 (by decide) (K' := [(2, .own 2 0)]) (L' := [(2, 25, [.val (.int .i64 b3.f_Kind), .str b3.f_Text, .row 4122, .row 4123]), (4122, 9, [.rowc false (α := List UInt8) [] E_string b3.f_Keys]), (4123, 25, [.rowc false (α := S_api_Node) (S_api_Node.mk 0 [] [] []) E_api_Node b3.f_Kids]), (1000000, 40, [.str r1.2.f_s, .val (.int .i64 r1.2.f_at), .val (.bool true)])]) (by kernel_rfl) (by kernel_rfl) (by kernel_rfl)) ?_
        refine To.keep (kk := [2]) (kl := [2, 4122, 4123, 1000000]) (K' := [(2, .own 2 0)]) (L' := [(2, 25, [.val (.int .i64 b3.f_Kind), .str b3.f_Text, .row 4122, .row 4123]), (4122, 9, [.rowc false (α := List UInt8) [] E_string b3.f_Keys]), (4123, 25, [.rowc false (α := S_api_Node) (S_api_Node.mk 0 [] [] []) E_api_Node b3.f_Kids]), (1000000, 40, [.str r1.2.f_s, .val (.int .i64 r1.2.f_at), .val (.bool true)])]) (by kernel_rfl) (by kernel_rfl) ?_
        cases h
        exact hQ
      · replace h := if_f hb h
        refine Wp.skip ?_
        refine To.thenN ?_
        refine Wp.seq ?_
        obtain ⟨r3, hr3, h⟩ := bind_of h
        refine Wp.region hΓ [] [] [(1, ⟨[(1000000, 1000000)], [(1000000, 1000000)], [.own 1000000 0], [(1000000, 40, [.str r1.2.f_s, .val (.int .i64 r1.2.f_at), .val (.bool r1.2.f_bad)])], .tup [.agg [.val (.int .i64 r3.1.f_Kind), .str r3.1.f_Text, .recs (α := List UInt8) [] E_string r3.1.f_Keys, .tree (α := S_api_Node) (S_api_Node.mk 0 [] [] []) pre_S_api_Node kids_S_api_Node r3.1.f_Kids], .val (.bool r3.2.1)], [(1000000, 40, [.str r3.2.2.f_s, .val (.int .i64 r3.2.2.f_at), .val (.bool r3.2.2.f_bad)])]⟩)] [0, 2, 3, 4, 5, 6] [2, 3, 6, 9, 4182, 4183, 1000000] (K' := [(0, .own 1000000 0), (2, .own 2 0), (3, .own 3 0), (4, .mp 9), (5, .str r1.1), (6, .own 6 0)]) (L' := [(2, 25, [.val (.int .i64 b2.f_Kind), .str b2.f_Text, .recs (α := List UInt8) [] E_string b2.f_Keys, .tree (α := S_api_Node) (S_api_Node.mk 0 [] [] []) pre_S_api_Node kids_S_api_Node b2.f_Kids]), (3, 25, [.val (.int .i64 b3.f_Kind), .str b3.f_Text, .row 4182, .row 4183]), (6, 25, [.val (.int .i64 r3.1.f_Kind), .str r3.1.f_Text, .recs (α := List UInt8) [] E_string r3.1.f_Keys, .tree (α := S_api_Node) (S_api_Node.mk 0 [] [] []) pre_S_api_Node kids_S_api_Node r3.1.f_Kids]), (9, 70, [.mapc none false (α := Int) 0 E_i64 (mput b9 (.inl r1.1) (IntKind.wrap .i64 (((mlook b9 (.inl r1.1)).getD 0) + 1)))]), (4182, 9, [.rowc false (α := List UInt8) [] E_string b3.f_Keys]), (4183, 25, [.rowc false (α := S_api_Node) (S_api_Node.mk 0 [] [] []) E_api_Node b3.f_Kids]), (1000000, 40, [.str r3.2.2.f_s, .val (.int .i64 r3.2.2.f_at), .val (.bool r3.2.2.f_bad)])]) (ob := [CbOb (CallsB Tryd.prog) 17 [.own 1000000 0] [some (40, [.str r1.2.f_s, .val (.int .i64 r1.2.f_at), .val (.bool r1.2.f_bad)])] ⟨[(1000000, 1000000)], [(1000000, 1000000)], [.own 1000000 0], [(1000000, 40, [.str r1.2.f_s, .val (.int .i64 r1.2.f_at), .val (.bool r1.2.f_bad)])], .tup [.agg [.val (.int .i64 r3.1.f_Kind), .str r3.1.f_Text, .recs (α := List UInt8) [] E_string r3.1.f_Keys, .tree (α := S_api_Node) (S_api_Node.mk 0 [] [] []) pre_S_api_Node kids_S_api_Node r3.1.f_Kids], .val (.bool r3.2.1)], [(1000000, 40, [.str r3.2.2.f_s, .val (.int .i64 r3.2.2.f_at), .val (.bool r3.2.2.f_bad)])]⟩]) (by kernel_rfl) (AllP.cons (⟨(hR_flow_reader_value__o0 r1.2 _ hr3), by kernel_rfl, by kernel_rfl⟩) AllP.nil) ?_
        refine To.thenN ?_
        refine Wp.seq ?_
        obtain ⟨hc6, h⟩ := chk_of h
        obtain ⟨hc7, h⟩ := chk_of h
        refine Wp.regionO hm hΓ [] [(3, .recs (α := List UInt8) [] E_string [r1.1]), (4, .recs (α := List UInt8) [] E_string (b3.f_Keys ++ ([r1.1] : List (List UInt8)))), (8, .recs (α := S_api_Node) (S_api_Node.mk 0 [] [] []) E_api_Node [r3.1]), (9, .recs (α := S_api_Node) (S_api_Node.mk 0 [] [] []) E_api_Node (b3.f_Kids ++ ([r3.1] : List (S_api_Node))))] [] [0, 2, 3, 4, 5, 6, 45, 46, 47, 48, 49, 50, 51, 52, 53, 54, 55, 56] [2, 3, 6, 9, 48, 49, 53, 54, 4182, 4183, 1000000] [0, 2, 3, 4] [2, 3, 9, 49, 54, 1000000] (K' := [(0, .own 1000000 0), (2, .own 2 0), (3, .own 3 0), (4, .mp 9)]) (L' := [(2, 25, [.val (.int .i64 b2.f_Kind), .str b2.f_Text, .recs (α := List UInt8) [] E_string b2.f_Keys, .tree (α := S_api_Node) (S_api_Node.mk 0 [] [] []) pre_S_api_Node kids_S_api_Node b2.f_Kids]), (3, 25, [.val (.int .i64 b3.f_Kind), .str b3.f_Text, .row 49, .row 54]), (9, 70, [.mapc none false (α := Int) 0 E_i64 (mput b9 (.inl r1.1) (IntKind.wrap .i64 (((mlook b9 (.inl r1.1)).getD 0) + 1)))]), (49, 9, [.rowc false (α := List UInt8) [] E_string (b3.f_Keys ++ ([r1.1] : List (List UInt8)))]), (54, 25, [.rowc false (α := S_api_Node) (S_api_Node.mk 0 [] [] []) E_api_Node (b3.f_Kids ++ ([r3.1] : List (S_api_Node)))]), (1000000, 40, [.str r3.2.2.f_s, .val (.int .i64 r3.2.2.f_at), .val (.bool r3.2.2.f_bad)])]) (ob := [(MkOb 1 [.str r1.1] 1 (.recs (α := List UInt8) [] E_string [r1.1]) ∧ GoodR (.recs (α := List UInt8) [] E_string [r1.1])), (decide ((List.length b3.f_Keys + List.length ([r1.1] : List (List UInt8))) * (16 + 1) ≤ limit)) = true, (AppOb [] E_string b3.f_Keys (List.flatMap E_string ([r1.1] : List (List UInt8))) (List.length ([r1.1] : List (List UInt8))) (.recs (α := List UInt8) [] E_string (b3.f_Keys ++ ([r1.1] : List (List UInt8)))) ∧ GoodR (.recs (α := List UInt8) [] E_string (b3.f_Keys ++ ([r1.1] : List (List UInt8))))), (MkOb 4 [.val (.int .i64 r3.1.f_Kind), .str r3.1.f_Text, .recs (α := List UInt8) [] E_string r3.1.f_Keys, .tree (α := S_api_Node) (S_api_Node.mk 0 [] [] []) pre_S_api_Node kids_S_api_Node r3.1.f_Kids] 1 (.recs (α := S_api_Node) (S_api_Node.mk 0 [] [] []) E_api_Node [r3.1]) ∧ GoodR (.recs (α := S_api_Node) (S_api_Node.mk 0 [] [] []) E_api_Node [r3.1])), (decide ((List.length b3.f_Kids + List.length ([r3.1] : List (S_api_Node))) * (72 + 1) ≤ limit)) = true, (AppOb (S_api_Node.mk 0 [] [] []) E_api_Node b3.f_Kids (List.flatMap E_api_Node ([r3.1] : List (S_api_Node))) (List.length ([r3.1] : List (S_api_Node))) (.recs (α := S_api_Node) (S_api_Node.mk 0 [] [] []) E_api_Node (b3.f_Kids ++ ([r3.1] : List (S_api_Node)))) ∧ GoodR (.recs (α := S_api_Node) (S_api_Node.mk 0 [] [] []) E_api_Node (b3.f_Kids ++ ([r3.1] : List (S_api_Node)))))]) (by kernel_rfl) (by kernel_rfl) (AllP.cons (mkOb (by kernel_rfl) rfl (by kernel_rfl) (good_E_string _)) (AllP.cons hc6 (AllP.cons (appOb rfl rfl (good_E_string _)) (AllP.cons (mkOb (by kernel_rfl) rfl (by kernel_rfl) (good_E_api_Node _)) (AllP.cons hc7 (AllP.cons (appOb rfl rfl (good_E_api_Node _)) AllP.nil)))))) ?_
        refine To.thenN ?_
        refine Wp.seq ?_
        refine Wp.seq ?_
        refine Wp.region hΓ [] [] [] [0, 2, 3, 4, 60] [2, 3, 9, 49, 54, 1000000] (K' := [(0, .own 1000000 0), (2, .own 2 0), (3, .own 3 0), (4, .mp 9), (60, .val (.bool r3.2.2.f_bad))]) (L' := [(2, 25, [.val (.int .i64 b2.f_Kind), .str b2.f_Text, .recs (α := List UInt8) [] E_string b2.f_Keys, .tree (α := S_api_Node) (S_api_Node.mk 0 [] [] []) pre_S_api_Node kids_S_api_Node b2.f_Kids]), (3, 25, [.val (.int .i64 b3.f_Kind), .str b3.f_Text, .row 49, .row 54]), (9, 70, [.mapc none false (α := Int) 0 E_i64 (mput b9 (.inl r1.1) (IntKind.wrap .i64 (((mlook b9 (.inl r1.1)).getD 0) + 1)))]), (49, 9, [.rowc false (α := List UInt8) [] E_string (b3.f_Keys ++ ([r1.1] : List (List UInt8)))]), (54, 25, [.rowc false (α := S_api_Node) (S_api_Node.mk 0 [] [] []) E_api_Node (b3.f_Kids ++ ([r3.1] : List (S_api_Node)))]), (1000000, 40, [.str r3.2.2.f_s, .val (.int .i64 r3.2.2.f_at), .val (.bool r3.2.2.f_bad)])]) (ob := []) (by kernel_rfl) AllP.nil ?_
        refine To.thenN ?_
        refine Wp.cond (b := r3.2.2.f_bad) (by kernel_rfl) (fun hb => ?_) (fun hb => ?_)
        · replace h := if_t hb h
          refine Wp.seq ?_
          refine Wp.region hΓ [] [] [] [2] [2, 49, 54, 1000000] (K' := [(2, .own 2 0)]) (L' := [(2, 25, [.val (.int .i64 b3.f_Kind), .str b3.f_Text, .row 49, .row 54]), (49, 9, [.rowc false (α := List UInt8) [] E_string (b3.f_Keys ++ ([r1.1] : List (List UInt8)))]), (54, 25, [.rowc false (α := S_api_Node) (S_api_Node.mk 0 [] [] []) E_api_Node (b3.f_Kids ++ ([r3.1] : List (S_api_Node)))]), (1000000, 40, [.str r3.2.2.f_s, .val (.int .i64 r3.2.2.f_at), .val (.bool r3.2.2.f_bad)])]) (ob := []) (by kernel_rfl) AllP.nil ?_
          refine To.thenN ?_
          refine Wp.ret ?_
          refine To.thenR ?_
          refine To.goesO (.inr (.inl rfl)) ?_
          refine To.keep (kk := [2]) (kl := [2, 49, 54, 1000000]) (K' := [(2, .own 2 0)]) (L' := [(2, 25, [.val (.int .i64 b3.f_Kind), .str b3.f_Text, .row 49, .row 54]), (49, 9, [.rowc false (α := List UInt8) [] E_string (b3.f_Keys ++ ([r1.1] : List (List UInt8)))]), (54, 25, [.rowc false (α := S_api_Node) (S_api_Node.mk 0 [] [] []) E_api_Node (b3.f_Kids ++ ([r3.1] : List (S_api_Node)))]), (1000000, 40, [.str r3.2.2.f_s, .val (.int .i64 r3.2.2.f_at), .val (.bool r3.2.2.f_bad)])]) (by kernel_rfl) (by kernel_rfl) ?_
          refine To.pre (St.rename 49 4122 (by decide) (K' := [(2, .own 2 0)]) (L' := [(2, 25, [.val (.int .i64 b3.f_Kind), .str b3.f_Text, .row 4122, .row 54]), (4122, 9, [.rowc false (α := List UInt8) [] E_string (b3.f_Keys ++ ([r1.1] : List (List UInt8)))]), (54, 25, [.rowc false (α := S_api_Node) (S_api_Node.mk 0 [] [] []) E_api_Node (b3.f_Kids ++ ([r3.1] : List (S_api_Node)))]), (1000000, 40, [.str r3.2.2.f_s, .val (.int .i64 r3.2.2.f_at), .val (.bool r3.2.2.f_bad)])]) (by kernel_rfl) (by kernel_rfl) (by kernel_rfl)) ?_
          refine To.keep (kk := [2]) (kl := [2, 54, 4122, 1000000]) (K' := [(2, .own 2 0)]) (L' := [(2, 25, [.val (.int .i64 b3.f_Kind), .str b3.f_Text, .row 4122, .row 54]), (54, 25, [.rowc false (α := S_api_Node) (S_api_Node.mk 0 [] [] []) E_api_Node (b3.f_Kids ++ ([r3.1] : List (S_api_Node)))]), (4122, 9, [.rowc false (α := List UInt8) [] E_string (b3.f_Keys ++ ([r1.1] : List (List UInt8)))]), (1000000, 40, [.str r3.2.2.f_s, .val (.int .i64 r3.2.2.f_at), .val (.bool r3.2.2.f_bad)])]) (by kernel_rfl) (by kernel_rfl) ?_
          refine To.pre (St.rename 54 4123 (by decide) (K' := [(2, .own 2 0)]) (L' := [(2, 25, [.val (.int .i64 b3.f_Kind), .str b3.f_Text, .row 4122, .row 4123]), (4123, 25, [.rowc false (α := S_api_Node) (S_api_Node.mk 0 [] [] []) E_api_Node (b3.f_Kids ++ ([r3.1] : List (S_api_Node)))]), (4122, 9, [.rowc false (α := List UInt8) [] E_string (b3.f_Keys ++ ([r1.1] : List (List UInt8)))]), (1000000, 40, [.str r3.2.2.f_s, .val (.int .i64 r3.2.2.f_at), .val (.bool r3.2.2.f_bad)])]) (by kernel_rfl) (by kernel_rfl) (by kernel_rfl)) ?_
          refine To.keep (kk := [2]) (kl := [2, 4122, 4123, 1000000]) (K' := [(2, .own 2 0)]) (L' := [(2, 25, [.val (.int .i64 b3.f_Kind), .str b3.f_Text, .row 4122, .row 4123]), (4122, 9, [.rowc false (α := List UInt8) [] E_string (b3.f_Keys ++ ([r1.1] : List (List UInt8)))]), (4123, 25, [.rowc false (α := S_api_Node) (S_api_Node.mk 0 [] [] []) E_api_Node (b3.f_Kids ++ ([r3.1] : List (S_api_Node)))]), (1000000, 40, [.str r3.2.2.f_s, .val (.int .i64 r3.2.2.f_at), .val (.bool r3.2.2.f_bad)])]) (by kernel_rfl) (by kernel_rfl) ?_
          cases h
          exact hQ
        · replace h := if_f hb h
          refine Wp.skip ?_
          refine To.thenN ?_
          refine Wp.seq ?_
          refine Wp.seq ?_
          obtain ⟨r4, hr4, h⟩ := bind_of h
          refine Wp.region hΓ [] [] [(1, ⟨[(1000000, 1000000)], [(1000000, 1000000)], [.own 1000000 0, .val (.int .u8 44)], [(1000000, 40, [.str r3.2.2.f_s, .val (.int .i64 r3.2.2.f_at), .val (.bool r3.2.2.f_bad)])], .val (.bool r4.1), [(1000000, 40, [.str r4.2.f_s, .val (.int .i64 r4.2.f_at), .val (.bool r4.2.f_bad)])]⟩)] [0, 2, 3, 4, 63] [2, 3, 9, 49, 54, 1000000] (K' := [(0, .own 1000000 0), (2, .own 2 0), (3, .own 3 0), (4, .mp 9), (63, .val (.bool r4.1))]) (L' := [(2, 25, [.val (.int .i64 b2.f_Kind), .str b2.f_Text, .recs (α := List UInt8) [] E_string b2.f_Keys, .tree (α := S_api_Node) (S_api_Node.mk 0 [] [] []) pre_S_api_Node kids_S_api_Node b2.f_Kids]), (3, 25, [.val (.int .i64 b3.f_Kind), .str b3.f_Text, .row 49, .row 54]), (9, 70, [.mapc none false (α := Int) 0 E_i64 (mput b9 (.inl r1.1) (IntKind.wrap .i64 (((mlook b9 (.inl r1.1)).getD 0) + 1)))]), (49, 9, [.rowc false (α := List UInt8) [] E_string (b3.f_Keys ++ ([r1.1] : List (List UInt8)))]), (54, 25, [.rowc false (α := S_api_Node) (S_api_Node.mk 0 [] [] []) E_api_Node (b3.f_Kids ++ ([r3.1] : List (S_api_Node)))]), (1000000, 40, [.str r4.2.f_s, .val (.int .i64 r4.2.f_at), .val (.bool r4.2.f_bad)])]) (ob := [CbOb (CallsB Tryd.prog) 46 [.own 1000000 0, .val (.int .u8 44)] [some (40, [.str r3.2.2.f_s, .val (.int .i64 r3.2.2.f_at), .val (.bool r3.2.2.f_bad)])] ⟨[(1000000, 1000000)], [(1000000, 1000000)], [.own 1000000 0, .val (.int .u8 44)], [(1000000, 40, [.str r3.2.2.f_s, .val (.int .i64 r3.2.2.f_at), .val (.bool r3.2.2.f_bad)])], .val (.bool r4.1), [(1000000, 40, [.str r4.2.f_s, .val (.int .i64 r4.2.f_at), .val (.bool r4.2.f_bad)])]⟩]) (by kernel_rfl) (AllP.cons (⟨(ok_flow_reader_take__o0 n 44 r3.2.2 _ hr4), by kernel_rfl, by kernel_rfl⟩) AllP.nil) ?_
          refine To.thenN ?_
          refine Wp.cond (b := r4.1) (by kernel_rfl) (fun hb => ?_) (fun hb => ?_)
          · replace h := if_t hb h
            refine Wp.goto ?_
            refine To.thenG ?_
            refine To.keep (kk := [0, 2, 3, 4]) (kl := [2, 3, 9, 49, 54, 1000000]) (K' := [(0, .own 1000000 0), (2, .own 2 0), (3, .own 3 0), (4, .mp 9)]) (L' := [(2, 25, [.val (.int .i64 b2.f_Kind), .str b2.f_Text, .recs (α := List UInt8) [] E_string b2.f_Keys, .tree (α := S_api_Node) (S_api_Node.mk 0 [] [] []) pre_S_api_Node kids_S_api_Node b2.f_Kids]), (3, 25, [.val (.int .i64 b3.f_Kind), .str b3.f_Text, .row 49, .row 54]), (9, 70, [.mapc none false (α := Int) 0 E_i64 (mput b9 (.inl r1.1) (IntKind.wrap .i64 (((mlook b9 (.inl r1.1)).getD 0) + 1)))]), (49, 9, [.rowc false (α := List UInt8) [] E_string (b3.f_Keys ++ ([r1.1] : List (List UInt8)))]), (54, 25, [.rowc false (α := S_api_Node) (S_api_Node.mk 0 [] [] []) E_api_Node (b3.f_Kids ++ ([r3.1] : List (S_api_Node)))]), (1000000, 40, [.str r4.2.f_s, .val (.int .i64 r4.2.f_at), .val (.bool r4.2.f_bad)])]) (by kernel_rfl) (by kernel_rfl) ?_
            refine To.pre (St.rename 49 4182 (by decide) (K' := [(0, .own 1000000 0), (2, .own 2 0), (3, .own 3 0), (4, .mp 9)]) (L' := [(2, 25, [.val (.int .i64 b2.f_Kind), .str b2.f_Text, .recs (α := List UInt8) [] E_string b2.f_Keys, .tree (α := S_api_Node) (S_api_Node.mk 0 [] [] []) pre_S_api_Node kids_S_api_Node b2.f_Kids]), (3, 25, [.val (.int .i64 b3.f_Kind), .str b3.f_Text, .row 4182, .row 54]), (9, 70, [.mapc none false (α := Int) 0 E_i64 (mput b9 (.inl r1.1) (IntKind.wrap .i64 (((mlook b9 (.inl r1.1)).getD 0) + 1)))]), (4182, 9, [.rowc false (α := List UInt8) [] E_string (b3.f_Keys ++ ([r1.1] : List (List UInt8)))]), (54, 25, [.rowc false (α := S_api_Node) (S_api_Node.mk 0 [] [] []) E_api_Node (b3.f_Kids ++ ([r3.1] : List (S_api_Node)))]), (1000000, 40, [.str r4.2.f_s, .val (.int .i64 r4.2.f_at), .val (.bool r4.2.f_bad)])]) (by kernel_rfl) (by kernel_rfl) (by kernel_rfl)) ?_
            refine To.keep (kk := [0, 2, 3, 4]) (kl := [2, 3, 9, 54, 4182, 1000000]) (K' := [(0, .own 1000000 0), (2, .own 2 0), (3, .own 3 0), (4, .mp 9)]) (L' := [(2, 25, [.val (.int .i64 b2.f_Kind), .str b2.f_Text, .recs (α := List UInt8) [] E_string b2.f_Keys, .tree (α := S_api_Node) (S_api_Node.mk 0 [] [] []) pre_S_api_Node kids_S_api_Node b2.f_Kids]), (3, 25, [.val (.int .i64 b3.f_Kind), .str b3.f_Text, .row 4182, .row 54]), (9, 70, [.mapc none false (α := Int) 0 E_i64 (mput b9 (.inl r1.1) (IntKind.wrap .i64 (((mlook b9 (.inl r1.1)).getD 0) + 1)))]), (54, 25, [.rowc false (α := S_api_Node) (S_api_Node.mk 0 [] [] []) E_api_Node (b3.f_Kids ++ ([r3.1] : List (S_api_Node)))]), (4182, 9, [.rowc false (α := List UInt8) [] E_string (b3.f_Keys ++ ([r1.1] : List (List UInt8)))]), (1000000, 40, [.str r4.2.f_s, .val (.int .i64 r4.2.f_at), .val (.bool r4.2.f_bad)])]) (by kernel_rfl) (by kernel_rfl) ?_
            refine To.pre (St.rename 54 4183 (by decide) (K' := [(0, .own 1000000 0), (2, .own 2 0), (3, .own 3 0), (4, .mp 9)]) (L' := [(2, 25, [.val (.int .i64 b2.f_Kind), .str b2.f_Text, .recs (α := List UInt8) [] E_string b2.f_Keys, .tree (α := S_api_Node) (S_api_Node.mk 0 [] [] []) pre_S_api_Node kids_S_api_Node b2.f_Kids]), (3, 25, [.val (.int .i64 b3.f_Kind), .str b3.f_Text, .row 4182, .row 4183]), (9, 70, [.mapc none false (α := Int) 0 E_i64 (mput b9 (.inl r1.1) (IntKind.wrap .i64 (((mlook b9 (.inl r1.1)).getD 0) + 1)))]), (4183, 25, [.rowc false (α := S_api_Node) (S_api_Node.mk 0 [] [] []) E_api_Node (b3.f_Kids ++ ([r3.1] : List (S_api_Node)))]), (4182, 9, [.rowc false (α := List UInt8) [] E_string (b3.f_Keys ++ ([r1.1] : List (List UInt8)))]), (1000000, 40, [.str r4.2.f_s, .val (.int .i64 r4.2.f_at), .val (.bool r4.2.f_bad)])]) (by kernel_rfl) (by kernel_rfl) (by kernel_rfl)) ?_
            refine To.keep (kk := [0, 2, 3, 4]) (kl := [2, 3, 9, 4182, 4183, 1000000]) (K' := [(0, .own 1000000 0), (2, .own 2 0), (3, .own 3 0), (4, .mp 9)]) (L' := [(2, 25, [.val (.int .i64 b2.f_Kind), .str b2.f_Text, .recs (α := List UInt8) [] E_string b2.f_Keys, .tree (α := S_api_Node) (S_api_Node.mk 0 [] [] []) pre_S_api_Node kids_S_api_Node b2.f_Kids]), (3, 25, [.val (.int .i64 b3.f_Kind), .str b3.f_Text, .row 4182, .row 4183]), (9, 70, [.mapc none false (α := Int) 0 E_i64 (mput b9 (.inl r1.1) (IntKind.wrap .i64 (((mlook b9 (.inl r1.1)).getD 0) + 1)))]), (4182, 9, [.rowc false (α := List UInt8) [] E_string (b3.f_Keys ++ ([r1.1] : List (List UInt8)))]), (4183, 25, [.rowc false (α := S_api_Node) (S_api_Node.mk 0 [] [] []) E_api_Node (b3.f_Kids ++ ([r3.1] : List (S_api_Node)))]), (1000000, 40, [.str r4.2.f_s, .val (.int .i64 r4.2.f_at), .val (.bool r4.2.f_bad)])]) (by kernel_rfl) (by kernel_rfl) ?_
            refine To.goto (rest := cG 0 (cB (cF Tryd.f31))) (by kernel_rfl) ?_
            exact ih.2 b2 (S_api_Node.mk b3.f_Kind b3.f_Text (b3.f_Keys ++ ([r1.1] : List (List UInt8))) (b3.f_Kids ++ ([r3.1] : List (S_api_Node)))) (mput b9 (.inl r1.1) (IntKind.wrap .i64 (((mlook b9 (.inl r1.1)).getD 0) + 1))) r4.2 _ h hQ
          · replace h := if_f hb h
            refine Wp.skip ?_
            refine To.thenN ?_
            refine Wp.seq ?_
            obtain ⟨r5, hr5, h⟩ := bind_of h
            refine Wp.region hΓ [] [] [(2, ⟨[(1000000, 1000000)], [(1000000, 1000000)], [.own 1000000 0, .val (.int .u8 125)], [(1000000, 40, [.str r4.2.f_s, .val (.int .i64 r4.2.f_at), .val (.bool r4.2.f_bad)])], .val (.bool r5.1), [(1000000, 40, [.str r5.2.f_s, .val (.int .i64 r5.2.f_at), .val (.bool r5.2.f_bad)])]⟩)] [2, 3] [2, 3, 49, 54, 1000000] (K' := [(2, .own 2 0), (3, .own 3 0)]) (L' := [(2, 25, [.val (.int .i64 b2.f_Kind), .str b2.f_Text, .recs (α := List UInt8) [] E_string b2.f_Keys, .tree (α := S_api_Node) (S_api_Node.mk 0 [] [] []) pre_S_api_Node kids_S_api_Node b2.f_Kids]), (3, 25, [.val (.int .i64 b3.f_Kind), .str b3.f_Text, .row 49, .row 54]), (49, 9, [.rowc false (α := List UInt8) [] E_string (b3.f_Keys ++ ([r1.1] : List (List UInt8)))]), (54, 25, [.rowc false (α := S_api_Node) (S_api_Node.mk 0 [] [] []) E_api_Node (b3.f_Kids ++ ([r3.1] : List (S_api_Node)))]), (1000000, 40, [.str r5.2.f_s, .val (.int .i64 r5.2.f_at), .val (.bool (!r5.1))])]) (ob := [CbOb (CallsB Tryd.prog) 46 [.own 1000000 0, .val (.int .u8 125)] [some (40, [.str r4.2.f_s, .val (.int .i64 r4.2.f_at), .val (.bool r4.2.f_bad)])] ⟨[(1000000, 1000000)], [(1000000, 1000000)], [.own 1000000 0, .val (.int .u8 125)], [(1000000, 40, [.str r4.2.f_s, .val (.int .i64 r4.2.f_at), .val (.bool r4.2.f_bad)])], .val (.bool r5.1), [(1000000, 40, [.str r5.2.f_s, .val (.int .i64 r5.2.f_at), .val (.bool r5.2.f_bad)])]⟩]) (by kernel_rfl) (AllP.cons (⟨(ok_flow_reader_take__o0 n 125 r4.2 _ hr5), by kernel_rfl, by kernel_rfl⟩) AllP.nil) ?_
            refine To.thenN ?_
            refine Wp.seq ?_
            refine Wp.region hΓ [] [] [] [2] [2, 49, 54, 1000000] (K' := [(2, .own 2 0)]) (L' := [(2, 25, [.val (.int .i64 b3.f_Kind), .str b3.f_Text, .row 49, .row 54]), (49, 9, [.rowc false (α := List UInt8) [] E_string (b3.f_Keys ++ ([r1.1] : List (List UInt8)))]), (54, 25, [.rowc false (α := S_api_Node) (S_api_Node.mk 0 [] [] []) E_api_Node (b3.f_Kids ++ ([r3.1] : List (S_api_Node)))]), (1000000, 40, [.str r5.2.f_s, .val (.int .i64 r5.2.f_at), .val (.bool (!r5.1))])]) (ob := []) (by kernel_rfl) AllP.nil ?_
            refine To.thenN ?_
            refine Wp.ret ?_
            refine To.goesO (.inr (.inl rfl)) ?_
            refine To.keep (kk := [2]) (kl := [2, 49, 54, 1000000]) (K' := [(2, .own 2 0)]) (L' := [(2, 25, [.val (.int .i64 b3.f_Kind), .str b3.f_Text, .row 49, .row 54]), (49, 9, [.rowc false (α := List UInt8) [] E_string (b3.f_Keys ++ ([r1.1] : List (List UInt8)))]), (54, 25, [.rowc false (α := S_api_Node) (S_api_Node.mk 0 [] [] []) E_api_Node (b3.f_Kids ++ ([r3.1] : List (S_api_Node)))]), (1000000, 40, [.str r5.2.f_s, .val (.int .i64 r5.2.f_at), .val (.bool (!r5.1))])]) (by kernel_rfl) (by kernel_rfl) ?_
            refine To.pre (St.rename 49 4122 (by decide) (K' := [(2, .own 2 0)]) (L' := [(2, 25, [.val (.int .i64 b3.f_Kind), .str b3.f_Text, .row 4122, .row 54]), (4122, 9, [.rowc false (α := List UInt8) [] E_string (b3.f_Keys ++ ([r1.1] : List (List UInt8)))]), (54, 25, [.rowc false (α := S_api_Node) (S_api_Node.mk 0 [] [] []) E_api_Node (b3.f_Kids ++ ([r3.1] : List (S_api_Node)))]), (1000000, 40, [.str r5.2.f_s, .val (.int .i64 r5.2.f_at), .val (.bool (!r5.1))])]) (by kernel_rfl) (by kernel_rfl) (by kernel_rfl)) ?_
            refine To.keep (kk := [2]) (kl := [2, 54, 4122, 1000000]) (K' := [(2, .own 2 0)]) (L' := [(2, 25, [.val (.int .i64 b3.f_Kind), .str b3.f_Text, .row 4122, .row 54]), (54, 25, [.rowc false (α := S_api_Node) (S_api_Node.mk 0 [] [] []) E_api_Node (b3.f_Kids ++ ([r3.1] : List (S_api_Node)))]), (4122, 9, [.rowc false (α := List UInt8) [] E_string (b3.f_Keys ++ ([r1.1] : List (List UInt8)))]), (1000000, 40, [.str r5.2.f_s, .val (.int .i64 r5.2.f_at), .val (.bool (!r5.1))])]) (by kernel_rfl) (by kernel_rfl) ?_
            refine To.pre (St.rename 54 4123 (by decide) (K' := [(2, .own 2 0)]) (L' := [(2, 25, [.val (.int .i64 b3.f_Kind), .str b3.f_Text, .row 4122, .row 4123]), (4123, 25, [.rowc false (α := S_api_Node) (S_api_Node.mk 0 [] [] []) E_api_Node (b3.f_Kids ++ ([r3.1] : List (S_api_Node)))]), (4122, 9, [.rowc false (α := List UInt8) [] E_string (b3.f_Keys ++ ([r1.1] : List (List UInt8)))]), (1000000, 40, [.str r5.2.f_s, .val (.int .i64 r5.2.f_at), .val (.bool (!r5.1))])]) (by kernel_rfl) (by kernel_rfl) (by kernel_rfl)) ?_
            refine To.keep (kk := [2]) (kl := [2, 4122, 4123, 1000000]) (K' := [(2, .own 2 0)]) (L' := [(2, 25, [.val (.int .i64 b3.f_Kind), .str b3.f_Text, .row 4122, .row 4123]), (4122, 9, [.rowc false (α := List UInt8) [] E_string (b3.f_Keys ++ ([r1.1] : List (List UInt8)))]), (4123, 25, [.rowc false (α := S_api_Node) (S_api_Node.mk 0 [] [] []) E_api_Node (b3.f_Kids ++ ([r3.1] : List (S_api_Node)))]), (1000000, 40, [.str r5.2.f_s, .val (.int .i64 r5.2.f_at), .val (.bool (!r5.1))])]) (by kernel_rfl) (by kernel_rfl) ?_
            cases h
            exact hQ
def flow_reader_pairs__o0 (R_flow_reader_value__o0 : S_flow_reader → Option (S_api_Node × Bool × S_flow_reader)) (n : Nat) (h0 : S_flow_reader) : Option (S_api_Node × S_flow_reader) :=
  (flow_reader_pairs__o0_g1_e R_flow_reader_value__o0 n n (S_api_Node.mk 0 [] [] []) h0).bind fun o1 =>
  some (o1.1, o1.2)
theorem ok_flow_reader_pairs__o0 (R_flow_reader_value__o0 : S_flow_reader → Option (S_api_Node × Bool × S_flow_reader)) (hR_flow_reader_value__o0 : ∀ (h0 : S_flow_reader) (r : S_api_Node × Bool × S_flow_reader), R_flow_reader_value__o0 h0 = some r → CallsB Tryd.prog 17 [.own 1000000 0] [(1000000, 40, [.str h0.f_s, .val (.int .i64 h0.f_at), .val (.bool h0.f_bad)])] (.tup [.agg [.val (.int .i64 r.1.f_Kind), .str r.1.f_Text, .recs (α := List UInt8) [] E_string r.1.f_Keys, .tree (α := S_api_Node) (S_api_Node.mk 0 [] [] []) pre_S_api_Node kids_S_api_Node r.1.f_Kids], .val (.bool r.2.1)]) [(1000000, 40, [.str r.2.2.f_s, .val (.int .i64 r.2.2.f_at), .val (.bool r.2.2.f_bad)])]) (n : Nat) (h0 : S_flow_reader) (r : S_api_Node × S_flow_reader) (h : flow_reader_pairs__o0 R_flow_reader_value__o0 n h0 = some r) : CallsB Tryd.prog 31 [.own 1000000 0] [(1000000, 40, [.str h0.f_s, .val (.int .i64 h0.f_at), .val (.bool h0.f_bad)])] (.agg [.val (.int .i64 r.1.f_Kind), .str r.1.f_Text, .recs (α := List UInt8) [] E_string r.1.f_Keys, .tree (α := S_api_Node) (S_api_Node.mk 0 [] [] []) pre_S_api_Node kids_S_api_Node r.1.f_Kids]) [(1000000, 40, [.str r.2.f_s, .val (.int .i64 r.2.f_at), .val (.bool r.2.f_bad)])] := by
  unfold flow_reader_pairs__o0 at h
  refine callsB_of (fn := Tryd.f31) (by kernel_rfl) rfl (by kernel_rfl) (Nat.le_of_ble_eq_true (by kernel_rfl)) fun F0 w0 => ?_
  refine Wp.keep (kk := [0]) (kl := [1000000]) (K' := [(0, .own 1000000 0)]) (L' := [(1000000, 40, [.str h0.f_s, .val (.int .i64 h0.f_at), .val (.bool h0.f_bad)])]) (by kernel_rfl) (by kernel_rfl) ?_
  refine Wp.seq ?_
  refine Wp.region hΓ [] [] [] [0, 2] [2, 1000000] (K' := [(0, .own 1000000 0), (2, .own 2 0)]) (L' := [(2, 25, [.val (.int .i64 0), .str [], .val (.slice none 0 0), .val (.slice none 0 0)]), (1000000, 40, [.str h0.f_s, .val (.int .i64 h0.f_at), .val (.bool h0.f_bad)])]) (ob := []) (by kernel_rfl) AllP.nil ?_
  refine To.thenN ?_
  obtain ⟨o1, ho1, h⟩ := bind_of h
  refine Wp.keep (kk := [0, 2]) (kl := [2, 1000000]) (K' := [(0, .own 1000000 0), (2, .own 2 0)]) (L' := [(2, 25, [.val (.int .i64 0), .str [], .val (.slice none 0 0), .val (.slice none 0 0)]), (1000000, 40, [.str h0.f_s, .val (.int .i64 h0.f_at), .val (.bool h0.f_bad)])]) (by kernel_rfl) (by kernel_rfl) ?_
  refine Wp.weak (K' := [(0, .own 1000000 0), (2, .own 2 0)]) (L' := [(2, 25, [.val (.int .i64 0), .str [], .recs (α := List UInt8) [] E_string [], .tree (α := S_api_Node) (S_api_Node.mk 0 [] [] []) pre_S_api_Node kids_S_api_Node []]), (1000000, 40, [.str h0.f_s, .val (.int .i64 h0.f_at), .val (.bool h0.f_bad)])]) (.cons (.refl _) (.cons (.refl _) .nil)) (.cons (.cons (.refl _) (.cons (.refl _) (.cons (.zero _ _) (.cons (.zeroT _ _ _) .nil)))) (.cons (.cons (.refl _) (.cons (.refl _) (.cons (.refl _) .nil))) .nil)) ?_
  refine Wp.scopeG ?_
  refine (ok_flow_reader_pairs__o0_g1 R_flow_reader_value__o0 hR_flow_reader_value__o0 n n).1 (S_api_Node.mk 0 [] [] []) h0 o1 ho1 ?_
  refine To.keep (kk := [2]) (kl := [2, 4122, 4123, 1000000]) (K' := [(2, .own 2 0)]) (L' := [(2, 25, [.val (.int .i64 o1.1.f_Kind), .str o1.1.f_Text, .row 4122, .row 4123]), (4122, 9, [.rowc false (α := List UInt8) [] E_string o1.1.f_Keys]), (4123, 25, [.rowc false (α := S_api_Node) (S_api_Node.mk 0 [] [] []) E_api_Node o1.1.f_Kids]), (1000000, 40, [.str o1.2.f_s, .val (.int .i64 o1.2.f_at), .val (.bool o1.2.f_bad)])]) (by kernel_rfl) (by kernel_rfl) ?_
  refine To.pre (St.settle (ks := [4122, 4123]) (kk := [2]) (kl := [2, 4122, 4123, 1000000]) (K' := [(2, .own 2 0)]) (L' := [(2, 25, [.val (.int .i64 o1.1.f_Kind), .str o1.1.f_Text, .row 4122, .row 4123]), (4122, 9, [.rowc true (α := List UInt8) [] E_string o1.1.f_Keys]), (4123, 25, [.rowc true (α := S_api_Node) (S_api_Node.mk 0 [] [] []) E_api_Node o1.1.f_Kids]), (1000000, 40, [.str o1.2.f_s, .val (.int .i64 o1.2.f_at), .val (.bool o1.2.f_bad)])]) (by kernel_rfl)) ?_
  refine To.pre (St.sealB [2] (L' := [(2, 25, [.val (.int .i64 o1.1.f_Kind), .str o1.1.f_Text, .recs (α := List UInt8) [] E_string o1.1.f_Keys, .recs (α := S_api_Node) (S_api_Node.mk 0 [] [] []) E_api_Node o1.1.f_Kids]), (4122, 9, [.rowc true (α := List UInt8) [] E_string o1.1.f_Keys]), (4123, 25, [.rowc true (α := S_api_Node) (S_api_Node.mk 0 [] [] []) E_api_Node o1.1.f_Kids]), (1000000, 40, [.str o1.2.f_s, .val (.int .i64 o1.2.f_at), .val (.bool o1.2.f_bad)])]) (by kernel_rfl)) ?_
  refine To.weak (K' := [(2, .own 2 0)]) (L' := [(2, 25, [.val (.int .i64 o1.1.f_Kind), .str o1.1.f_Text, .recs (α := List UInt8) [] E_string o1.1.f_Keys, .tree (α := S_api_Node) (S_api_Node.mk 0 [] [] []) pre_S_api_Node kids_S_api_Node o1.1.f_Kids]), (4122, 9, [.rowc true (α := List UInt8) [] E_string o1.1.f_Keys]), (4123, 25, [.rowc true (α := S_api_Node) (S_api_Node.mk 0 [] [] []) E_api_Node o1.1.f_Kids]), (1000000, 40, [.str o1.2.f_s, .val (.int .i64 o1.2.f_at), .val (.bool o1.2.f_bad)])]) (.cons (.refl _) .nil) (.cons (.cons (.refl _) (.cons (.refl _) (.cons (.refl _) (.cons (.close _ _ _ _) .nil)))) (.cons (.cons (.refl _) .nil) (.cons (.cons (.refl _) .nil) (.cons (.cons (.refl _) (.cons (.refl _) (.cons (.refl _) .nil))) .nil)))) ?_
  refine To.keep (kk := [2]) (kl := [2, 1000000]) (K' := [(2, .own 2 0)]) (L' := [(2, 25, [.val (.int .i64 o1.1.f_Kind), .str o1.1.f_Text, .recs (α := List UInt8) [] E_string o1.1.f_Keys, .tree (α := S_api_Node) (S_api_Node.mk 0 [] [] []) pre_S_api_Node kids_S_api_Node o1.1.f_Kids]), (1000000, 40, [.str o1.2.f_s, .val (.int .i64 o1.2.f_at), .val (.bool o1.2.f_bad)])]) (by kernel_rfl) (by kernel_rfl) ?_
  cases h
  exact To.doneB hΓ [1000000] (by kernel_rfl) (by kernel_rfl)
def node_Text (a0 : List UInt8) : S_api_Node :=
  (S_api_Node.mk 1 a0 [] [])
theorem ok_node_Text (a0 : List UInt8) (r : S_api_Node) (h : node_Text a0 = r) : CallsX Tryd.prog 32 [.str a0] (.agg [.val (.int .i64 r.f_Kind), .str r.f_Text, .recs (α := List UInt8) [] E_string r.f_Keys, .tree (α := S_api_Node) (S_api_Node.mk 0 [] [] []) pre_S_api_Node kids_S_api_Node r.f_Kids]) := by
  unfold node_Text at h
  refine callsX_of (fn := Tryd.f32) (by kernel_rfl) rfl (by kernel_rfl) (Nat.le_of_ble_eq_true (by kernel_rfl)) fun F0 w0 _ => ?_
  refine Wp.keep (kk := [0]) (kl := []) (K' := [(0, .str a0)]) (L' := []) (by kernel_rfl) (by kernel_rfl) ?_
  refine Wp.seq ?_
  refine Wp.region hΓ [] [] [] [0, 2] [2] (K' := [(0, .str a0), (2, .own 2 0)]) (L' := [(2, 25, [.val (.int .i64 0), .str [], .val (.slice none 0 0), .val (.slice none 0 0)])]) (ob := []) (by kernel_rfl) AllP.nil ?_
  refine To.thenN ?_
  refine Wp.seq ?_
  refine Wp.region hΓ [] [] [] [2] [2] (K' := [(2, .own 2 0)]) (L' := [(2, 25, [.val (.int .i64 1), .str a0, .val (.slice none 0 0), .val (.slice none 0 0)])]) (ob := []) (by kernel_rfl) AllP.nil ?_
  refine To.thenN ?_
  refine Wp.ret ?_
  refine To.keep (kk := [2]) (kl := [2]) (K' := [(2, .own 2 0)]) (L' := [(2, 25, [.val (.int .i64 1), .str a0, .val (.slice none 0 0), .val (.slice none 0 0)])]) (by kernel_rfl) (by kernel_rfl) ?_
  refine To.weak (K' := [(2, .own 2 0)]) (L' := [(2, 25, [.val (.int .i64 1), .str a0, .recs (α := List UInt8) [] E_string [], .tree (α := S_api_Node) (S_api_Node.mk 0 [] [] []) pre_S_api_Node kids_S_api_Node []])]) (.cons (.refl _) .nil) (.cons (.cons (.refl _) (.cons (.refl _) (.cons (.zero _ _) (.cons (.zeroT _ _ _) .nil)))) .nil) ?_
  cases h
  exact To.done hΓ (by kernel_rfl)
def flow_Scalar (n : Nat) (a0 : List UInt8) (a1 : Bool) : Option (S_api_Node × Int) :=
  if (bif (bif (a0 == []) then true else (a0 == [126])) then true else (a0 == [110, 117, 108, 108])) = true then (some ((S_api_Node.mk 0 [] [] []), 0))
  else (if (decide (0 ≤ (0 : Int) ∧ (0 : Int) < (List.length a0 : Int))) = true then (if ((!(((((a0)[Int.toNat 0]?.getD 0).toNat : Int) == 34) == false) || decide (0 ≤ (0 : Int) ∧ (0 : Int) < (List.length a0 : Int)))) = true then (if (bif ((((a0)[Int.toNat 0]?.getD 0).toNat : Int) == 34) then true else ((((a0)[Int.toNat 0]?.getD 0).toNat : Int) == 39)) = true then ((quote_Scan n a0 0).bind fun r1 =>
  if (bif (r1.2.2 != 0) then true else (r1.2.1 != (List.length a0 : Int))) = true then (some ((S_api_Node.mk 0 [] [] []), 3))
  else (lett (node_Text r1.1) fun r2 =>
  some (r2, 0)))
  else (((if (a1 == true) = true then quote_Row n a0 else some false)).bind fun r3 =>
  ((if (((!a1) == true) && ((bif a1 then r3 else false) == false)) = true then quote_Plain n a0 else some false)).bind fun r4 =>
  if (bif (bif a1 then r3 else false) then true else (bif (!a1) then r4 else false)) = true then (lett (node_Text a0) fun r5 =>
  some (r5, 0))
  else (some ((S_api_Node.mk 0 [] [] []), 3)))) else none) else none)
theorem ok_flow_Scalar (n : Nat) (a0 : List UInt8) (a1 : Bool) (r : S_api_Node × Int) (h : flow_Scalar n a0 a1 = some r) : CallsX Tryd.prog 35 [.str a0, .val (.bool a1)] (.tup [.agg [.val (.int .i64 r.1.f_Kind), .str r.1.f_Text, .recs (α := List UInt8) [] E_string r.1.f_Keys, .tree (α := S_api_Node) (S_api_Node.mk 0 [] [] []) pre_S_api_Node kids_S_api_Node r.1.f_Kids], .val (.int .i64 r.2)]) := by
  unfold flow_Scalar at h
  refine callsX_of (fn := Tryd.f35) (by kernel_rfl) rfl (by kernel_rfl) (Nat.le_of_ble_eq_true (by kernel_rfl)) fun F0 w0 _ => ?_
  refine Wp.keep (kk := [0, 1]) (kl := []) (K' := [(0, .str a0), (1, .val (.bool a1))]) (L' := []) (by kernel_rfl) (by kernel_rfl) ?_
  refine Wp.seq ?_
  refine Wp.region hΓ [] [] [] [0, 1, 4] [4] (K' := [(0, .str a0), (1, .val (.bool a1)), (4, .own 4 0)]) (L' := [(4, 25, [.val (.int .i64 0), .str [], .val (.slice none 0 0), .val (.slice none 0 0)])]) (ob := []) (by kernel_rfl) AllP.nil ?_
  refine To.thenN ?_
  refine Wp.seq ?_
  refine Wp.block ?_
  refine Wp.seq ?_
  refine Wp.region hΓ [] [] [] [0, 1, 4, 9] [4] (K' := [(0, .str a0), (1, .val (.bool a1)), (4, .own 4 0), (9, .val (.bool (bif (bif (a0 == []) then true else (a0 == [126])) then true else (a0 == [110, 117, 108, 108]))))]) (L' := [(4, 25, [.val (.int .i64 0), .str [], .val (.slice none 0 0), .val (.slice none 0 0)])]) (ob := []) (by kernel_rfl) AllP.nil ?_
  refine To.thenN ?_
  refine Wp.cond (b := (bif (bif (a0 == []) then true else (a0 == [126])) then true else (a0 == [110, 117, 108, 108]))) (by kernel_rfl) (fun hb => ?_) (fun hb => ?_)
  · replace h := if_t hb h
    refine Wp.seq ?_
    refine Wp.region hΓ [] [] [] [4, 5] [4] (K' := [(4, .own 4 0), (5, .val (.int .i64 0))]) (L' := [(4, 25, [.val (.int .i64 0), .str [], .val (.slice none 0 0), .val (.slice none 0 0)])]) (ob := []) (by kernel_rfl) AllP.nil ?_
    refine To.thenN ?_
    refine Wp.ret ?_
    refine To.blockR ?_
    refine To.thenR ?_
    refine To.keep (kk := [4, 5]) (kl := [4]) (K' := [(4, .own 4 0), (5, .val (.int .i64 0))]) (L' := [(4, 25, [.val (.int .i64 0), .str [], .val (.slice none 0 0), .val (.slice none 0 0)])]) (by kernel_rfl) (by kernel_rfl) ?_
    refine To.weak (K' := [(4, .own 4 0), (5, .val (.int .i64 0))]) (L' := [(4, 25, [.val (.int .i64 0), .str [], .recs (α := List UInt8) [] E_string [], .tree (α := S_api_Node) (S_api_Node.mk 0 [] [] []) pre_S_api_Node kids_S_api_Node []])]) (.cons (.refl _) (.cons (.refl _) .nil)) (.cons (.cons (.refl _) (.cons (.refl _) (.cons (.zero _ _) (.cons (.zeroT _ _ _) .nil)))) .nil) ?_
    cases h
    exact To.done hΓ (by kernel_rfl)
  · replace h := if_f hb h
    refine Wp.seq ?_
    obtain ⟨hc6, h⟩ := chk_of h
    obtain ⟨hc7, h⟩ := chk_of h
    refine Wp.region hΓ [] [] [] [0, 1, 4, 21] [4] (K' := [(0, .str a0), (1, .val (.bool a1)), (4, .own 4 0), (21, .val (.bool (bif ((((a0)[Int.toNat 0]?.getD 0).toNat : Int) == 34) then true else ((((a0)[Int.toNat 0]?.getD 0).toNat : Int) == 39))))]) (L' := [(4, 25, [.val (.int .i64 0), .str [], .val (.slice none 0 0), .val (.slice none 0 0)])]) (ob := [(decide (0 ≤ (0 : Int) ∧ (0 : Int) < (List.length a0 : Int))) = true, (!(((((a0)[Int.toNat 0]?.getD 0).toNat : Int) == 34) == false) || decide (0 ≤ (0 : Int) ∧ (0 : Int) < (List.length a0 : Int))) = true]) (by kernel_rfl) (AllP.cons hc6 (AllP.cons hc7 AllP.nil)) ?_
    refine To.thenN ?_
    refine Wp.cond (b := (bif ((((a0)[Int.toNat 0]?.getD 0).toNat : Int) == 34) then true else ((((a0)[Int.toNat 0]?.getD 0).toNat : Int) == 39))) (by kernel_rfl) (fun hb => ?_) (fun hb => ?_)
    · replace h := if_t hb h
      refine Wp.seq ?_
      obtain ⟨r1, hr1, h⟩ := bind_of h
      refine Wp.region hΓ [] [(1, .tup [.str r1.1, .val (.int .i64 r1.2.1), .val (.int .i64 r1.2.2)])] [] [0, 4, 6, 7, 8] [4] (K' := [(0, .str a0), (4, .own 4 0), (6, .str r1.1), (7, .val (.int .i64 r1.2.1)), (8, .val (.int .i64 r1.2.2))]) (L' := [(4, 25, [.val (.int .i64 0), .str [], .val (.slice none 0 0), .val (.slice none 0 0)])]) (ob := [(true = true → CX Tryd.prog 48 [.str a0, .val (.int .i64 0)] (.tup [.str r1.1, .val (.int .i64 r1.2.1), .val (.int .i64 r1.2.2)]))]) (by kernel_rfl) (AllP.cons (fun _ => cx (ok_quote_Scan n a0 0 _ hr1)) AllP.nil) ?_
      refine To.thenN ?_
      refine Wp.seq ?_
      refine Wp.seq ?_
      refine Wp.region hΓ [] [] [] [4, 6, 43] [4] (K' := [(4, .own 4 0), (6, .str r1.1), (43, .val (.bool (bif (r1.2.2 != 0) then true else (r1.2.1 != (List.length a0 : Int)))))]) (L' := [(4, 25, [.val (.int .i64 0), .str [], .val (.slice none 0 0), .val (.slice none 0 0)])]) (ob := []) (by kernel_rfl) AllP.nil ?_
      refine To.thenN ?_
      refine Wp.cond (b := (bif (r1.2.2 != 0) then true else (r1.2.1 != (List.length a0 : Int)))) (by kernel_rfl) (fun hb => ?_) (fun hb => ?_)
      · replace h := if_t hb h
        refine Wp.seq ?_
        refine Wp.region hΓ [] [] [] [4, 5] [4] (K' := [(4, .own 4 0), (5, .val (.int .i64 3))]) (L' := [(4, 25, [.val (.int .i64 0), .str [], .val (.slice none 0 0), .val (.slice none 0 0)])]) (ob := []) (by kernel_rfl) AllP.nil ?_
        refine To.thenN ?_
        refine Wp.ret ?_
        refine To.thenR ?_
        refine To.blockR ?_
        refine To.thenR ?_
        refine To.keep (kk := [4, 5]) (kl := [4]) (K' := [(4, .own 4 0), (5, .val (.int .i64 3))]) (L' := [(4, 25, [.val (.int .i64 0), .str [], .val (.slice none 0 0), .val (.slice none 0 0)])]) (by kernel_rfl) (by kernel_rfl) ?_
        refine To.weak (K' := [(4, .own 4 0), (5, .val (.int .i64 3))]) (L' := [(4, 25, [.val (.int .i64 0), .str [], .recs (α := List UInt8) [] E_string [], .tree (α := S_api_Node) (S_api_Node.mk 0 [] [] []) pre_S_api_Node kids_S_api_Node []])]) (.cons (.refl _) (.cons (.refl _) .nil)) (.cons (.cons (.refl _) (.cons (.refl _) (.cons (.zero _ _) (.cons (.zeroT _ _ _) .nil)))) .nil) ?_
        cases h
        exact To.done hΓ (by kernel_rfl)
      · replace h := if_f hb h
        refine Wp.skip ?_
        refine To.thenN ?_
        refine Wp.seq ?_
        obtain ⟨r2, hr2, h⟩ := lett_of h
        refine Wp.region hΓ [] [(1, .agg [.val (.int .i64 r2.f_Kind), .str r2.f_Text, .recs (α := List UInt8) [] E_string r2.f_Keys, .tree (α := S_api_Node) (S_api_Node.mk 0 [] [] []) pre_S_api_Node kids_S_api_Node r2.f_Kids])] [] [4, 5] [4] (K' := [(4, .own 4 0), (5, .val (.int .i64 0))]) (L' := [(4, 25, [.val (.int .i64 r2.f_Kind), .str r2.f_Text, .recs (α := List UInt8) [] E_string r2.f_Keys, .tree (α := S_api_Node) (S_api_Node.mk 0 [] [] []) pre_S_api_Node kids_S_api_Node r2.f_Kids])]) (ob := [(true = true → CX Tryd.prog 32 [.str r1.1] (.agg [.val (.int .i64 r2.f_Kind), .str r2.f_Text, .recs (α := List UInt8) [] E_string r2.f_Keys, .tree (α := S_api_Node) (S_api_Node.mk 0 [] [] []) pre_S_api_Node kids_S_api_Node r2.f_Kids]))]) (by kernel_rfl) (AllP.cons (fun _ => cx (ok_node_Text r1.1 _ hr2)) AllP.nil) ?_
        refine To.thenN ?_
        refine Wp.ret ?_
        refine To.blockR ?_
        refine To.thenR ?_
        refine To.keep (kk := [4, 5]) (kl := [4]) (K' := [(4, .own 4 0), (5, .val (.int .i64 0))]) (L' := [(4, 25, [.val (.int .i64 r2.f_Kind), .str r2.f_Text, .recs (α := List UInt8) [] E_string r2.f_Keys, .tree (α := S_api_Node) (S_api_Node.mk 0 [] [] []) pre_S_api_Node kids_S_api_Node r2.f_Kids])]) (by kernel_rfl) (by kernel_rfl) ?_
        cases h
        exact To.done hΓ (by kernel_rfl)
    · replace h := if_f hb h
      refine Wp.seq ?_
      obtain ⟨r3, hr3, h⟩ := bind_of h
      obtain ⟨r4, hr4, h⟩ := bind_of h
      refine Wp.region hΓ [] [(3, .val (.bool r3)), (10, .val (.bool r4))] [] [0, 4, 47] [4] (K' := [(0, .str a0), (4, .own 4 0), (47, .val (.bool (bif (bif a1 then r3 else false) then true else (bif (!a1) then r4 else false))))]) (L' := [(4, 25, [.val (.int .i64 0), .str [], .val (.slice none 0 0), .val (.slice none 0 0)])]) (ob := [((a1 == true) = true → CX Tryd.prog 22 [.str a0] (.val (.bool r3))), ((((!a1) == true) && ((bif a1 then r3 else false) == false)) = true → CX Tryd.prog 23 [.str a0] (.val (.bool r4)))]) (by kernel_rfl) (AllP.cons (fun hg => cx (ok_quote_Row n a0 _ (if_t hg hr3))) (AllP.cons (fun hg => cx (ok_quote_Plain n a0 _ (if_t hg hr4))) AllP.nil)) ?_
      refine To.thenN ?_
      refine Wp.cond (b := (bif (bif a1 then r3 else false) then true else (bif (!a1) then r4 else false))) (by kernel_rfl) (fun hb => ?_) (fun hb => ?_)
      · replace h := if_t hb h
        refine Wp.seq ?_
        obtain ⟨r5, hr5, h⟩ := lett_of h
        refine Wp.region hΓ [] [(1, .agg [.val (.int .i64 r5.f_Kind), .str r5.f_Text, .recs (α := List UInt8) [] E_string r5.f_Keys, .tree (α := S_api_Node) (S_api_Node.mk 0 [] [] []) pre_S_api_Node kids_S_api_Node r5.f_Kids])] [] [4, 5] [4] (K' := [(4, .own 4 0), (5, .val (.int .i64 0))]) (L' := [(4, 25, [.val (.int .i64 r5.f_Kind), .str r5.f_Text, .recs (α := List UInt8) [] E_string r5.f_Keys, .tree (α := S_api_Node) (S_api_Node.mk 0 [] [] []) pre_S_api_Node kids_S_api_Node r5.f_Kids])]) (ob := [(true = true → CX Tryd.prog 32 [.str a0] (.agg [.val (.int .i64 r5.f_Kind), .str r5.f_Text, .recs (α := List UInt8) [] E_string r5.f_Keys, .tree (α := S_api_Node) (S_api_Node.mk 0 [] [] []) pre_S_api_Node kids_S_api_Node r5.f_Kids]))]) (by kernel_rfl) (AllP.cons (fun _ => cx (ok_node_Text a0 _ hr5)) AllP.nil) ?_
        refine To.thenN ?_
        refine Wp.ret ?_
        refine To.blockR ?_
        refine To.thenR ?_
        refine To.keep (kk := [4, 5]) (kl := [4]) (K' := [(4, .own 4 0), (5, .val (.int .i64 0))]) (L' := [(4, 25, [.val (.int .i64 r5.f_Kind), .str r5.f_Text, .recs (α := List UInt8) [] E_string r5.f_Keys, .tree (α := S_api_Node) (S_api_Node.mk 0 [] [] []) pre_S_api_Node kids_S_api_Node r5.f_Kids])]) (by kernel_rfl) (by kernel_rfl) ?_
        cases h
        exact To.done hΓ (by kernel_rfl)
      · replace h := if_f hb h
        refine Wp.skip ?_
        refine To.blockN ?_
        refine To.thenN ?_
        refine Wp.seq ?_
        refine Wp.region hΓ [] [] [] [4, 5] [4] (K' := [(4, .own 4 0), (5, .val (.int .i64 3))]) (L' := [(4, 25, [.val (.int .i64 0), .str [], .val (.slice none 0 0), .val (.slice none 0 0)])]) (ob := []) (by kernel_rfl) AllP.nil ?_
        refine To.thenN ?_
        refine Wp.ret ?_
        refine To.keep (kk := [4, 5]) (kl := [4]) (K' := [(4, .own 4 0), (5, .val (.int .i64 3))]) (L' := [(4, 25, [.val (.int .i64 0), .str [], .val (.slice none 0 0), .val (.slice none 0 0)])]) (by kernel_rfl) (by kernel_rfl) ?_
        refine To.weak (K' := [(4, .own 4 0), (5, .val (.int .i64 3))]) (L' := [(4, 25, [.val (.int .i64 0), .str [], .recs (α := List UInt8) [] E_string [], .tree (α := S_api_Node) (S_api_Node.mk 0 [] [] []) pre_S_api_Node kids_S_api_Node []])]) (.cons (.refl _) (.cons (.refl _) .nil)) (.cons (.cons (.refl _) (.cons (.refl _) (.cons (.zero _ _) (.cons (.zeroT _ _ _) .nil)))) .nil) ?_
        cases h
        exact To.done hΓ (by kernel_rfl)
def flow_reader_value__o0_j2 (R_flow_reader_value__o0 : S_flow_reader → Option (S_api_Node × Bool × S_flow_reader)) (n : Nat) (v8 : Int) (v17 : Bool) (b2 : S_api_Node) (b1000000 : S_flow_reader) : Option (Bool) :=
  if v17 = true then some v17
  else (some (v8 == 39))
theorem ok_flow_reader_value__o0_j2 (R_flow_reader_value__o0 : S_flow_reader → Option (S_api_Node × Bool × S_flow_reader)) (hR_flow_reader_value__o0 : ∀ (h0 : S_flow_reader) (r : S_api_Node × Bool × S_flow_reader), R_flow_reader_value__o0 h0 = some r → CallsB Tryd.prog 17 [.own 1000000 0] [(1000000, 40, [.str h0.f_s, .val (.int .i64 h0.f_at), .val (.bool h0.f_bad)])] (.tup [.agg [.val (.int .i64 r.1.f_Kind), .str r.1.f_Text, .recs (α := List UInt8) [] E_string r.1.f_Keys, .tree (α := S_api_Node) (S_api_Node.mk 0 [] [] []) pre_S_api_Node kids_S_api_Node r.1.f_Kids], .val (.bool r.2.1)]) [(1000000, 40, [.str r.2.2.f_s, .val (.int .i64 r.2.2.f_at), .val (.bool r.2.2.f_bad)])]) (n : Nat) (v8 : Int) (v17 : Bool) (b2 : S_api_Node) (b1000000 : S_flow_reader) (o : Bool) (h : flow_reader_value__o0_j2 R_flow_reader_value__o0 n v8 v17 b2 b1000000 = some o) {F0 : Fz} {w0 : Pt Tryd.prog} {Q : Exit → Act → World → Prop} (hQ : To 44 F0 w0 [(0, .own 1000000 0), (2, .own 2 0), (17, .val (.bool o))] [(2, 25, [.val (.int .i64 b2.f_Kind), .str b2.f_Text, .recs (α := List UInt8) [] E_string b2.f_Keys, .tree (α := S_api_Node) (S_api_Node.mk 0 [] [] []) pre_S_api_Node kids_S_api_Node b2.f_Kids]), (1000000, 40, [.str b1000000.f_s, .val (.int .i64 b1000000.f_at), .val (.bool b1000000.f_bad)])] .normal Q) : Wp Tryd.prog 44 F0 w0 [(0, .own 1000000 0), (2, .own 2 0), (8, .val (.int .u8 v8)), (17, .val (.bool v17))] [(2, 25, [.val (.int .i64 b2.f_Kind), .str b2.f_Text, .recs (α := List UInt8) [] E_string b2.f_Keys, .tree (α := S_api_Node) (S_api_Node.mk 0 [] [] []) pre_S_api_Node kids_S_api_Node b2.f_Kids]), (1000000, 40, [.str b1000000.f_s, .val (.int .i64 b1000000.f_at), .val (.bool b1000000.f_bad)])] (cB (cA (cE (cB (cE (cB (cI (cB (cA (cB (cF Tryd.f17))))))))))) Q := by
  unfold flow_reader_value__o0_j2 at h
  refine Wp.cond (b := v17) (by kernel_rfl) (fun hb => ?_) (fun hb => ?_)
  · replace h := if_t hb h
    refine Wp.skip ?_
    refine To.keep (kk := [0, 2, 17]) (kl := [2, 1000000]) (K' := [(0, .own 1000000 0), (2, .own 2 0), (17, .val (.bool v17))]) (L' := [(2, 25, [.val (.int .i64 b2.f_Kind), .str b2.f_Text, .recs (α := List UInt8) [] E_string b2.f_Keys, .tree (α := S_api_Node) (S_api_Node.mk 0 [] [] []) pre_S_api_Node kids_S_api_Node b2.f_Kids]), (1000000, 40, [.str b1000000.f_s, .val (.int .i64 b1000000.f_at), .val (.bool b1000000.f_bad)])]) (by kernel_rfl) (by kernel_rfl) ?_
    cases h
    exact hQ
  · replace h := if_f hb h
    refine Wp.region hΓ [] [] [] [0, 2, 17] [2, 1000000] (K' := [(0, .own 1000000 0), (2, .own 2 0), (17, .val (.bool (v8 == 39)))]) (L' := [(2, 25, [.val (.int .i64 b2.f_Kind), .str b2.f_Text, .recs (α := List UInt8) [] E_string b2.f_Keys, .tree (α := S_api_Node) (S_api_Node.mk 0 [] [] []) pre_S_api_Node kids_S_api_Node b2.f_Kids]), (1000000, 40, [.str b1000000.f_s, .val (.int .i64 b1000000.f_at), .val (.bool b1000000.f_bad)])]) (ob := []) (by kernel_rfl) AllP.nil ?_
    refine To.keep (kk := [0, 2, 17]) (kl := [2, 1000000]) (K' := [(0, .own 1000000 0), (2, .own 2 0), (17, .val (.bool (v8 == 39)))]) (L' := [(2, 25, [.val (.int .i64 b2.f_Kind), .str b2.f_Text, .recs (α := List UInt8) [] E_string b2.f_Keys, .tree (α := S_api_Node) (S_api_Node.mk 0 [] [] []) pre_S_api_Node kids_S_api_Node b2.f_Kids]), (1000000, 40, [.str b1000000.f_s, .val (.int .i64 b1000000.f_at), .val (.bool b1000000.f_bad)])]) (by kernel_rfl) (by kernel_rfl) ?_
    cases h
    exact hQ
def flow_reader_value__o0_j1 (R_flow_reader_value__o0 : S_flow_reader → Option (S_api_Node × Bool × S_flow_reader)) (n : Nat) (v8 : Int) (b2 : S_api_Node) (b1000000 : S_flow_reader) : Option (Sum (S_api_Node × S_flow_reader) (Bool × S_api_Node × S_flow_reader)) :=
  if (v8 == 91) = true then ((flow_reader_seq__o0 R_flow_reader_value__o0 n b1000000).bind fun r2 =>
  some (.inr (true, r2.1, r2.2)))
  else (if (v8 == 123) = true then ((flow_reader_pairs__o0 R_flow_reader_value__o0 n b1000000).bind fun r3 =>
  some (.inr (true, r3.1, r3.2)))
  else ((flow_reader_value__o0_j2 R_flow_reader_value__o0 n v8 (v8 == 34) b2 b1000000).bind fun o4 =>
  if o4 = true then ((flow_reader_quoted__o0 n b1000000).bind fun r5 =>
  lett (node_Text r5.1) fun r6 =>
  some (.inr (true, r6, r5.2)))
  else (some (.inl (b2, b1000000)))))
theorem ok_flow_reader_value__o0_j1 (R_flow_reader_value__o0 : S_flow_reader → Option (S_api_Node × Bool × S_flow_reader)) (hR_flow_reader_value__o0 : ∀ (h0 : S_flow_reader) (r : S_api_Node × Bool × S_flow_reader), R_flow_reader_value__o0 h0 = some r → CallsB Tryd.prog 17 [.own 1000000 0] [(1000000, 40, [.str h0.f_s, .val (.int .i64 h0.f_at), .val (.bool h0.f_bad)])] (.tup [.agg [.val (.int .i64 r.1.f_Kind), .str r.1.f_Text, .recs (α := List UInt8) [] E_string r.1.f_Keys, .tree (α := S_api_Node) (S_api_Node.mk 0 [] [] []) pre_S_api_Node kids_S_api_Node r.1.f_Kids], .val (.bool r.2.1)]) [(1000000, 40, [.str r.2.2.f_s, .val (.int .i64 r.2.2.f_at), .val (.bool r.2.2.f_bad)])]) (n : Nat) (v8 : Int) (b2 : S_api_Node) (b1000000 : S_flow_reader) (o : Sum (S_api_Node × S_flow_reader) (Bool × S_api_Node × S_flow_reader)) (h : flow_reader_value__o0_j1 R_flow_reader_value__o0 n v8 b2 b1000000 = some o) {F0 : Fz} {w0 : Pt Tryd.prog} {Q : Exit → Act → World → Prop} (hQ : (Sum.elim (fun s => To 44 F0 w0 [(0, .own 1000000 0), (2, .own 2 0)] [(2, 25, [.val (.int .i64 s.1.f_Kind), .str s.1.f_Text, .recs (α := List UInt8) [] E_string s.1.f_Keys, .tree (α := S_api_Node) (S_api_Node.mk 0 [] [] []) pre_S_api_Node kids_S_api_Node s.1.f_Kids]), (1000000, 40, [.str s.2.f_s, .val (.int .i64 s.2.f_at), .val (.bool s.2.f_bad)])] .normal Q) (fun s => To 44 F0 w0 [(2, .own 2 0), (3, .val (.bool s.1))] [(2, 25, [.val (.int .i64 s.2.1.f_Kind), .str s.2.1.f_Text, .recs (α := List UInt8) [] E_string s.2.1.f_Keys, .tree (α := S_api_Node) (S_api_Node.mk 0 [] [] []) pre_S_api_Node kids_S_api_Node s.2.1.f_Kids]), (1000000, 40, [.str s.2.2.f_s, .val (.int .i64 s.2.2.f_at), .val (.bool s.2.2.f_bad)])] .ret Q)) o) : Wp Tryd.prog 44 F0 w0 [(0, .own 1000000 0), (2, .own 2 0), (8, .val (.int .u8 v8))] [(2, 25, [.val (.int .i64 b2.f_Kind), .str b2.f_Text, .recs (α := List UInt8) [] E_string b2.f_Keys, .tree (α := S_api_Node) (S_api_Node.mk 0 [] [] []) pre_S_api_Node kids_S_api_Node b2.f_Kids]), (1000000, 40, [.str b1000000.f_s, .val (.int .i64 b1000000.f_at), .val (.bool b1000000.f_bad)])] (cB (cA (cB (cF Tryd.f17)))) Q := by
  unfold flow_reader_value__o0_j1 at h
  refine Wp.block ?_
  refine Wp.seq ?_
  refine Wp.region hΓ [] [] [] [0, 2, 8, 9] [2, 1000000] (K' := [(0, .own 1000000 0), (2, .own 2 0), (8, .val (.int .u8 v8)), (9, .val (.bool (v8 == 91)))]) (L' := [(2, 25, [.val (.int .i64 b2.f_Kind), .str b2.f_Text, .recs (α := List UInt8) [] E_string b2.f_Keys, .tree (α := S_api_Node) (S_api_Node.mk 0 [] [] []) pre_S_api_Node kids_S_api_Node b2.f_Kids]), (1000000, 40, [.str b1000000.f_s, .val (.int .i64 b1000000.f_at), .val (.bool b1000000.f_bad)])]) (ob := []) (by kernel_rfl) AllP.nil ?_
  refine To.thenN ?_
  refine Wp.cond (b := (v8 == 91)) (by kernel_rfl) (fun hb => ?_) (fun hb => ?_)
  · replace h := if_t hb h
    refine Wp.seq ?_
    obtain ⟨r2, hr2, h⟩ := bind_of h
    refine Wp.region hΓ [] [] [(1, ⟨[(1000000, 1000000)], [(1000000, 1000000)], [.own 1000000 0], [(1000000, 40, [.str b1000000.f_s, .val (.int .i64 b1000000.f_at), .val (.bool b1000000.f_bad)])], .agg [.val (.int .i64 r2.1.f_Kind), .str r2.1.f_Text, .recs (α := List UInt8) [] E_string r2.1.f_Keys, .tree (α := S_api_Node) (S_api_Node.mk 0 [] [] []) pre_S_api_Node kids_S_api_Node r2.1.f_Kids], [(1000000, 40, [.str r2.2.f_s, .val (.int .i64 r2.2.f_at), .val (.bool r2.2.f_bad)])]⟩)] [2, 3] [2, 1000000] (K' := [(2, .own 2 0), (3, .val (.bool true))]) (L' := [(2, 25, [.val (.int .i64 r2.1.f_Kind), .str r2.1.f_Text, .recs (α := List UInt8) [] E_string r2.1.f_Keys, .tree (α := S_api_Node) (S_api_Node.mk 0 [] [] []) pre_S_api_Node kids_S_api_Node r2.1.f_Kids]), (1000000, 40, [.str r2.2.f_s, .val (.int .i64 r2.2.f_at), .val (.bool r2.2.f_bad)])]) (ob := [CbOb (CallsB Tryd.prog) 30 [.own 1000000 0] [some (40, [.str b1000000.f_s, .val (.int .i64 b1000000.f_at), .val (.bool b1000000.f_bad)])] ⟨[(1000000, 1000000)], [(1000000, 1000000)], [.own 1000000 0], [(1000000, 40, [.str b1000000.f_s, .val (.int .i64 b1000000.f_at), .val (.bool b1000000.f_bad)])], .agg [.val (.int .i64 r2.1.f_Kind), .str r2.1.f_Text, .recs (α := List UInt8) [] E_string r2.1.f_Keys, .tree (α := S_api_Node) (S_api_Node.mk 0 [] [] []) pre_S_api_Node kids_S_api_Node r2.1.f_Kids], [(1000000, 40, [.str r2.2.f_s, .val (.int .i64 r2.2.f_at), .val (.bool r2.2.f_bad)])]⟩]) (by kernel_rfl) (AllP.cons (⟨(ok_flow_reader_seq__o0 R_flow_reader_value__o0 hR_flow_reader_value__o0 n b1000000 _ hr2), by kernel_rfl, by kernel_rfl⟩) AllP.nil) ?_
    refine To.thenN ?_
    refine Wp.ret ?_
    refine To.blockR ?_
    refine To.keep (kk := [2, 3]) (kl := [2, 1000000]) (K' := [(2, .own 2 0), (3, .val (.bool true))]) (L' := [(2, 25, [.val (.int .i64 r2.1.f_Kind), .str r2.1.f_Text, .recs (α := List UInt8) [] E_string r2.1.f_Keys, .tree (α := S_api_Node) (S_api_Node.mk 0 [] [] []) pre_S_api_Node kids_S_api_Node r2.1.f_Kids]), (1000000, 40, [.str r2.2.f_s, .val (.int .i64 r2.2.f_at), .val (.bool r2.2.f_bad)])]) (by kernel_rfl) (by kernel_rfl) ?_
    cases h
    exact hQ
  · replace h := if_f hb h
    refine Wp.seq ?_
    refine Wp.region hΓ [] [] [] [0, 2, 8, 13] [2, 1000000] (K' := [(0, .own 1000000 0), (2, .own 2 0), (8, .val (.int .u8 v8)), (13, .val (.bool (v8 == 123)))]) (L' := [(2, 25, [.val (.int .i64 b2.f_Kind), .str b2.f_Text, .recs (α := List UInt8) [] E_string b2.f_Keys, .tree (α := S_api_Node) (S_api_Node.mk 0 [] [] []) pre_S_api_Node kids_S_api_Node b2.f_Kids]), (1000000, 40, [.str b1000000.f_s, .val (.int .i64 b1000000.f_at), .val (.bool b1000000.f_bad)])]) (ob := []) (by kernel_rfl) AllP.nil ?_
    refine To.thenN ?_
    refine Wp.cond (b := (v8 == 123)) (by kernel_rfl) (fun hb => ?_) (fun hb => ?_)
    · replace h := if_t hb h
      refine Wp.seq ?_
      obtain ⟨r3, hr3, h⟩ := bind_of h
      refine Wp.region hΓ [] [] [(1, ⟨[(1000000, 1000000)], [(1000000, 1000000)], [.own 1000000 0], [(1000000, 40, [.str b1000000.f_s, .val (.int .i64 b1000000.f_at), .val (.bool b1000000.f_bad)])], .agg [.val (.int .i64 r3.1.f_Kind), .str r3.1.f_Text, .recs (α := List UInt8) [] E_string r3.1.f_Keys, .tree (α := S_api_Node) (S_api_Node.mk 0 [] [] []) pre_S_api_Node kids_S_api_Node r3.1.f_Kids], [(1000000, 40, [.str r3.2.f_s, .val (.int .i64 r3.2.f_at), .val (.bool r3.2.f_bad)])]⟩)] [2, 3] [2, 1000000] (K' := [(2, .own 2 0), (3, .val (.bool true))]) (L' := [(2, 25, [.val (.int .i64 r3.1.f_Kind), .str r3.1.f_Text, .recs (α := List UInt8) [] E_string r3.1.f_Keys, .tree (α := S_api_Node) (S_api_Node.mk 0 [] [] []) pre_S_api_Node kids_S_api_Node r3.1.f_Kids]), (1000000, 40, [.str r3.2.f_s, .val (.int .i64 r3.2.f_at), .val (.bool r3.2.f_bad)])]) (ob := [CbOb (CallsB Tryd.prog) 31 [.own 1000000 0] [some (40, [.str b1000000.f_s, .val (.int .i64 b1000000.f_at), .val (.bool b1000000.f_bad)])] ⟨[(1000000, 1000000)], [(1000000, 1000000)], [.own 1000000 0], [(1000000, 40, [.str b1000000.f_s, .val (.int .i64 b1000000.f_at), .val (.bool b1000000.f_bad)])], .agg [.val (.int .i64 r3.1.f_Kind), .str r3.1.f_Text, .recs (α := List UInt8) [] E_string r3.1.f_Keys, .tree (α := S_api_Node) (S_api_Node.mk 0 [] [] []) pre_S_api_Node kids_S_api_Node r3.1.f_Kids], [(1000000, 40, [.str r3.2.f_s, .val (.int .i64 r3.2.f_at), .val (.bool r3.2.f_bad)])]⟩]) (by kernel_rfl) (AllP.cons (⟨(ok_flow_reader_pairs__o0 R_flow_reader_value__o0 hR_flow_reader_value__o0 n b1000000 _ hr3), by kernel_rfl, by kernel_rfl⟩) AllP.nil) ?_
      refine To.thenN ?_
      refine Wp.ret ?_
      refine To.blockR ?_
      refine To.keep (kk := [2, 3]) (kl := [2, 1000000]) (K' := [(2, .own 2 0), (3, .val (.bool true))]) (L' := [(2, 25, [.val (.int .i64 r3.1.f_Kind), .str r3.1.f_Text, .recs (α := List UInt8) [] E_string r3.1.f_Keys, .tree (α := S_api_Node) (S_api_Node.mk 0 [] [] []) pre_S_api_Node kids_S_api_Node r3.1.f_Kids]), (1000000, 40, [.str r3.2.f_s, .val (.int .i64 r3.2.f_at), .val (.bool r3.2.f_bad)])]) (by kernel_rfl) (by kernel_rfl) ?_
      cases h
      exact hQ
    · replace h := if_f hb h
      refine Wp.seq ?_
      refine Wp.seq ?_
      refine Wp.region hΓ [] [] [] [0, 2, 8, 17] [2, 1000000] (K' := [(0, .own 1000000 0), (2, .own 2 0), (8, .val (.int .u8 v8)), (17, .val (.bool (v8 == 34)))]) (L' := [(2, 25, [.val (.int .i64 b2.f_Kind), .str b2.f_Text, .recs (α := List UInt8) [] E_string b2.f_Keys, .tree (α := S_api_Node) (S_api_Node.mk 0 [] [] []) pre_S_api_Node kids_S_api_Node b2.f_Kids]), (1000000, 40, [.str b1000000.f_s, .val (.int .i64 b1000000.f_at), .val (.bool b1000000.f_bad)])]) (ob := []) (by kernel_rfl) AllP.nil ?_
      refine To.thenN ?_
      obtain ⟨o4, ho4, h⟩ := bind_of h
      refine Wp.keep (kk := [0, 2, 8, 17]) (kl := [2, 1000000]) (K' := [(0, .own 1000000 0), (2, .own 2 0), (8, .val (.int .u8 v8)), (17, .val (.bool (v8 == 34)))]) (L' := [(2, 25, [.val (.int .i64 b2.f_Kind), .str b2.f_Text, .recs (α := List UInt8) [] E_string b2.f_Keys, .tree (α := S_api_Node) (S_api_Node.mk 0 [] [] []) pre_S_api_Node kids_S_api_Node b2.f_Kids]), (1000000, 40, [.str b1000000.f_s, .val (.int .i64 b1000000.f_at), .val (.bool b1000000.f_bad)])]) (by kernel_rfl) (by kernel_rfl) ?_
      refine ok_flow_reader_value__o0_j2 R_flow_reader_value__o0 hR_flow_reader_value__o0 n v8 (v8 == 34) b2 b1000000 o4 ho4 ?_
      refine To.thenN ?_
      refine Wp.cond (b := o4) (by kernel_rfl) (fun hb => ?_) (fun hb => ?_)
      · replace h := if_t hb h
        refine Wp.seq ?_
        obtain ⟨r5, hr5, h⟩ := bind_of h
        obtain ⟨r6, hr6, h⟩ := lett_of h
        refine Wp.region hΓ [] [(2, .agg [.val (.int .i64 r6.f_Kind), .str r6.f_Text, .recs (α := List UInt8) [] E_string r6.f_Keys, .tree (α := S_api_Node) (S_api_Node.mk 0 [] [] []) pre_S_api_Node kids_S_api_Node r6.f_Kids])] [(1, ⟨[(1000000, 1000000)], [(1000000, 1000000)], [.own 1000000 0], [(1000000, 40, [.str b1000000.f_s, .val (.int .i64 b1000000.f_at), .val (.bool b1000000.f_bad)])], .str r5.1, [(1000000, 40, [.str r5.2.f_s, .val (.int .i64 r5.2.f_at), .val (.bool r5.2.f_bad)])]⟩)] [2, 3] [2, 1000000] (K' := [(2, .own 2 0), (3, .val (.bool true))]) (L' := [(2, 25, [.val (.int .i64 r6.f_Kind), .str r6.f_Text, .recs (α := List UInt8) [] E_string r6.f_Keys, .tree (α := S_api_Node) (S_api_Node.mk 0 [] [] []) pre_S_api_Node kids_S_api_Node r6.f_Kids]), (1000000, 40, [.str r5.2.f_s, .val (.int .i64 r5.2.f_at), .val (.bool r5.2.f_bad)])]) (ob := [CbOb (CallsB Tryd.prog) 33 [.own 1000000 0] [some (40, [.str b1000000.f_s, .val (.int .i64 b1000000.f_at), .val (.bool b1000000.f_bad)])] ⟨[(1000000, 1000000)], [(1000000, 1000000)], [.own 1000000 0], [(1000000, 40, [.str b1000000.f_s, .val (.int .i64 b1000000.f_at), .val (.bool b1000000.f_bad)])], .str r5.1, [(1000000, 40, [.str r5.2.f_s, .val (.int .i64 r5.2.f_at), .val (.bool r5.2.f_bad)])]⟩, (true = true → CX Tryd.prog 32 [.str r5.1] (.agg [.val (.int .i64 r6.f_Kind), .str r6.f_Text, .recs (α := List UInt8) [] E_string r6.f_Keys, .tree (α := S_api_Node) (S_api_Node.mk 0 [] [] []) pre_S_api_Node kids_S_api_Node r6.f_Kids]))]) (by kernel_rfl) (AllP.cons (⟨(ok_flow_reader_quoted__o0 n b1000000 _ hr5), by kernel_rfl, by kernel_rfl⟩) (AllP.cons (fun _ => cx (ok_node_Text r5.1 _ hr6)) AllP.nil)) ?_
        refine To.thenN ?_
        refine Wp.ret ?_
        refine To.blockR ?_
        refine To.keep (kk := [2, 3]) (kl := [2, 1000000]) (K' := [(2, .own 2 0), (3, .val (.bool true))]) (L' := [(2, 25, [.val (.int .i64 r6.f_Kind), .str r6.f_Text, .recs (α := List UInt8) [] E_string r6.f_Keys, .tree (α := S_api_Node) (S_api_Node.mk 0 [] [] []) pre_S_api_Node kids_S_api_Node r6.f_Kids]), (1000000, 40, [.str r5.2.f_s, .val (.int .i64 r5.2.f_at), .val (.bool r5.2.f_bad)])]) (by kernel_rfl) (by kernel_rfl) ?_
        cases h
        exact hQ
      · replace h := if_f hb h
        refine Wp.skip ?_
        refine To.blockN ?_
        refine To.keep (kk := [0, 2]) (kl := [2, 1000000]) (K' := [(0, .own 1000000 0), (2, .own 2 0)]) (L' := [(2, 25, [.val (.int .i64 b2.f_Kind), .str b2.f_Text, .recs (α := List UInt8) [] E_string b2.f_Keys, .tree (α := S_api_Node) (S_api_Node.mk 0 [] [] []) pre_S_api_Node kids_S_api_Node b2.f_Kids]), (1000000, 40, [.str b1000000.f_s, .val (.int .i64 b1000000.f_at), .val (.bool b1000000.f_bad)])]) (by kernel_rfl) (by kernel_rfl) ?_
        cases h
        exact hQ
def flow_reader_value__o0_b (R_flow_reader_value__o0 : S_flow_reader → Option (S_api_Node × Bool × S_flow_reader)) (n : Nat) (h0 : S_flow_reader) : Option (S_api_Node × Bool × S_flow_reader) :=
  (flow_reader_next__o0 n h0).bind fun r1 =>
  (flow_reader_value__o0_j1 R_flow_reader_value__o0 n r1.1 (S_api_Node.mk 0 [] [] []) r1.2).bind fun o2 =>
  (Sum.elim (fun o2 => (flow_reader_plain__o0 n o2.2).bind fun r3 =>
  (flow_Scalar n r3.1 true).bind fun r4 =>
  some (r4.1, (!(r3.1 == [])), (S_flow_reader.mk r3.2.f_s r3.2.f_at (bif r3.2.f_bad then true else (r4.2 != 0))))) (fun o2 => some (o2.2.1, o2.1, o2.2.2))) o2
theorem ok_flow_reader_value__o0_b (R_flow_reader_value__o0 : S_flow_reader → Option (S_api_Node × Bool × S_flow_reader)) (hR_flow_reader_value__o0 : ∀ (h0 : S_flow_reader) (r : S_api_Node × Bool × S_flow_reader), R_flow_reader_value__o0 h0 = some r → CallsB Tryd.prog 17 [.own 1000000 0] [(1000000, 40, [.str h0.f_s, .val (.int .i64 h0.f_at), .val (.bool h0.f_bad)])] (.tup [.agg [.val (.int .i64 r.1.f_Kind), .str r.1.f_Text, .recs (α := List UInt8) [] E_string r.1.f_Keys, .tree (α := S_api_Node) (S_api_Node.mk 0 [] [] []) pre_S_api_Node kids_S_api_Node r.1.f_Kids], .val (.bool r.2.1)]) [(1000000, 40, [.str r.2.2.f_s, .val (.int .i64 r.2.2.f_at), .val (.bool r.2.2.f_bad)])]) (n : Nat) (h0 : S_flow_reader) (r : S_api_Node × Bool × S_flow_reader) (h : flow_reader_value__o0_b R_flow_reader_value__o0 n h0 = some r) : CallsB Tryd.prog 17 [.own 1000000 0] [(1000000, 40, [.str h0.f_s, .val (.int .i64 h0.f_at), .val (.bool h0.f_bad)])] (.tup [.agg [.val (.int .i64 r.1.f_Kind), .str r.1.f_Text, .recs (α := List UInt8) [] E_string r.1.f_Keys, .tree (α := S_api_Node) (S_api_Node.mk 0 [] [] []) pre_S_api_Node kids_S_api_Node r.1.f_Kids], .val (.bool r.2.1)]) [(1000000, 40, [.str r.2.2.f_s, .val (.int .i64 r.2.2.f_at), .val (.bool r.2.2.f_bad)])] := by
  unfold flow_reader_value__o0_b at h
  refine callsB_of (fn := Tryd.f17) (by kernel_rfl) rfl (by kernel_rfl) (Nat.le_of_ble_eq_true (by kernel_rfl)) fun F0 w0 => ?_
  refine Wp.keep (kk := [0]) (kl := [1000000]) (K' := [(0, .own 1000000 0)]) (L' := [(1000000, 40, [.str h0.f_s, .val (.int .i64 h0.f_at), .val (.bool h0.f_bad)])]) (by kernel_rfl) (by kernel_rfl) ?_
  refine Wp.seq ?_
  refine Wp.region hΓ [] [] [] [0, 2] [2, 1000000] (K' := [(0, .own 1000000 0), (2, .own 2 0)]) (L' := [(2, 25, [.val (.int .i64 0), .str [], .val (.slice none 0 0), .val (.slice none 0 0)]), (1000000, 40, [.str h0.f_s, .val (.int .i64 h0.f_at), .val (.bool h0.f_bad)])]) (ob := []) (by kernel_rfl) AllP.nil ?_
  refine To.thenN ?_
  refine Wp.seq ?_
  refine Wp.seq ?_
  obtain ⟨r1, hr1, h⟩ := bind_of h
  refine Wp.region hΓ [] [] [(1, ⟨[(1000000, 1000000)], [(1000000, 1000000)], [.own 1000000 0], [(1000000, 40, [.str h0.f_s, .val (.int .i64 h0.f_at), .val (.bool h0.f_bad)])], .val (.int .u8 r1.1), [(1000000, 40, [.str r1.2.f_s, .val (.int .i64 r1.2.f_at), .val (.bool r1.2.f_bad)])]⟩)] [0, 2, 8] [2, 1000000] (K' := [(0, .own 1000000 0), (2, .own 2 0), (8, .val (.int .u8 r1.1))]) (L' := [(2, 25, [.val (.int .i64 0), .str [], .val (.slice none 0 0), .val (.slice none 0 0)]), (1000000, 40, [.str r1.2.f_s, .val (.int .i64 r1.2.f_at), .val (.bool r1.2.f_bad)])]) (ob := [CbOb (CallsB Tryd.prog) 18 [.own 1000000 0] [some (40, [.str h0.f_s, .val (.int .i64 h0.f_at), .val (.bool h0.f_bad)])] ⟨[(1000000, 1000000)], [(1000000, 1000000)], [.own 1000000 0], [(1000000, 40, [.str h0.f_s, .val (.int .i64 h0.f_at), .val (.bool h0.f_bad)])], .val (.int .u8 r1.1), [(1000000, 40, [.str r1.2.f_s, .val (.int .i64 r1.2.f_at), .val (.bool r1.2.f_bad)])]⟩]) (by kernel_rfl) (AllP.cons (⟨(ok_flow_reader_next__o0 n h0 _ hr1), by kernel_rfl, by kernel_rfl⟩) AllP.nil) ?_
  refine To.thenN ?_
  obtain ⟨o2, ho2, h⟩ := bind_of h
  refine Wp.keep (kk := [0, 2, 8]) (kl := [2, 1000000]) (K' := [(0, .own 1000000 0), (2, .own 2 0), (8, .val (.int .u8 r1.1))]) (L' := [(2, 25, [.val (.int .i64 0), .str [], .val (.slice none 0 0), .val (.slice none 0 0)]), (1000000, 40, [.str r1.2.f_s, .val (.int .i64 r1.2.f_at), .val (.bool r1.2.f_bad)])]) (by kernel_rfl) (by kernel_rfl) ?_
  refine Wp.weak (K' := [(0, .own 1000000 0), (2, .own 2 0), (8, .val (.int .u8 r1.1))]) (L' := [(2, 25, [.val (.int .i64 0), .str [], .recs (α := List UInt8) [] E_string [], .tree (α := S_api_Node) (S_api_Node.mk 0 [] [] []) pre_S_api_Node kids_S_api_Node []]), (1000000, 40, [.str r1.2.f_s, .val (.int .i64 r1.2.f_at), .val (.bool r1.2.f_bad)])]) (.cons (.refl _) (.cons (.refl _) (.cons (.refl _) .nil))) (.cons (.cons (.refl _) (.cons (.refl _) (.cons (.zero _ _) (.cons (.zeroT _ _ _) .nil)))) (.cons (.cons (.refl _) (.cons (.refl _) (.cons (.refl _) .nil))) .nil)) ?_
  refine ok_flow_reader_value__o0_j1 R_flow_reader_value__o0 hR_flow_reader_value__o0 n r1.1 (S_api_Node.mk 0 [] [] []) r1.2 o2 ho2 ?_
  rcases o2 with o2 | o2
  · replace h := sum_l h
    refine To.thenN ?_
    refine Wp.seq ?_
    obtain ⟨r3, hr3, h⟩ := bind_of h
    refine Wp.region hΓ [] [] [(1, ⟨[(1000000, 1000000)], [(1000000, 1000000)], [.own 1000000 0], [(1000000, 40, [.str o2.2.f_s, .val (.int .i64 o2.2.f_at), .val (.bool o2.2.f_bad)])], .str r3.1, [(1000000, 40, [.str r3.2.f_s, .val (.int .i64 r3.2.f_at), .val (.bool r3.2.f_bad)])]⟩)] [0, 2, 4] [2, 1000000] (K' := [(0, .own 1000000 0), (2, .own 2 0), (4, .str r3.1)]) (L' := [(2, 25, [.val (.int .i64 o2.1.f_Kind), .str o2.1.f_Text, .recs (α := List UInt8) [] E_string o2.1.f_Keys, .tree (α := S_api_Node) (S_api_Node.mk 0 [] [] []) pre_S_api_Node kids_S_api_Node o2.1.f_Kids]), (1000000, 40, [.str r3.2.f_s, .val (.int .i64 r3.2.f_at), .val (.bool r3.2.f_bad)])]) (ob := [CbOb (CallsB Tryd.prog) 34 [.own 1000000 0] [some (40, [.str o2.2.f_s, .val (.int .i64 o2.2.f_at), .val (.bool o2.2.f_bad)])] ⟨[(1000000, 1000000)], [(1000000, 1000000)], [.own 1000000 0], [(1000000, 40, [.str o2.2.f_s, .val (.int .i64 o2.2.f_at), .val (.bool o2.2.f_bad)])], .str r3.1, [(1000000, 40, [.str r3.2.f_s, .val (.int .i64 r3.2.f_at), .val (.bool r3.2.f_bad)])]⟩]) (by kernel_rfl) (AllP.cons (⟨(ok_flow_reader_plain__o0 n o2.2 _ hr3), by kernel_rfl, by kernel_rfl⟩) AllP.nil) ?_
    refine To.thenN ?_
    refine Wp.seq ?_
    obtain ⟨r4, hr4, h⟩ := bind_of h
    refine Wp.region hΓ [] [(1, .tup [.agg [.val (.int .i64 r4.1.f_Kind), .str r4.1.f_Text, .recs (α := List UInt8) [] E_string r4.1.f_Keys, .tree (α := S_api_Node) (S_api_Node.mk 0 [] [] []) pre_S_api_Node kids_S_api_Node r4.1.f_Kids], .val (.int .i64 r4.2)])] [] [0, 2, 4, 5, 6] [2, 5, 1000000] (K' := [(0, .own 1000000 0), (2, .own 2 0), (4, .str r3.1), (5, .own 5 0), (6, .val (.int .i64 r4.2))]) (L' := [(2, 25, [.val (.int .i64 o2.1.f_Kind), .str o2.1.f_Text, .recs (α := List UInt8) [] E_string o2.1.f_Keys, .tree (α := S_api_Node) (S_api_Node.mk 0 [] [] []) pre_S_api_Node kids_S_api_Node o2.1.f_Kids]), (5, 25, [.val (.int .i64 r4.1.f_Kind), .str r4.1.f_Text, .recs (α := List UInt8) [] E_string r4.1.f_Keys, .tree (α := S_api_Node) (S_api_Node.mk 0 [] [] []) pre_S_api_Node kids_S_api_Node r4.1.f_Kids]), (1000000, 40, [.str r3.2.f_s, .val (.int .i64 r3.2.f_at), .val (.bool r3.2.f_bad)])]) (ob := [(true = true → CX Tryd.prog 35 [.str r3.1, .val (.bool true)] (.tup [.agg [.val (.int .i64 r4.1.f_Kind), .str r4.1.f_Text, .recs (α := List UInt8) [] E_string r4.1.f_Keys, .tree (α := S_api_Node) (S_api_Node.mk 0 [] [] []) pre_S_api_Node kids_S_api_Node r4.1.f_Kids], .val (.int .i64 r4.2)]))]) (by kernel_rfl) (AllP.cons (fun _ => cx (ok_flow_Scalar n r3.1 true _ hr4)) AllP.nil) ?_
    refine To.thenN ?_
    refine Wp.seq ?_
    refine Wp.region hΓ [] [] [] [2, 4, 5] [2, 5, 1000000] (K' := [(2, .own 2 0), (4, .str r3.1), (5, .own 5 0)]) (L' := [(2, 25, [.val (.int .i64 o2.1.f_Kind), .str o2.1.f_Text, .recs (α := List UInt8) [] E_string o2.1.f_Keys, .tree (α := S_api_Node) (S_api_Node.mk 0 [] [] []) pre_S_api_Node kids_S_api_Node o2.1.f_Kids]), (5, 25, [.val (.int .i64 r4.1.f_Kind), .str r4.1.f_Text, .recs (α := List UInt8) [] E_string r4.1.f_Keys, .tree (α := S_api_Node) (S_api_Node.mk 0 [] [] []) pre_S_api_Node kids_S_api_Node r4.1.f_Kids]), (1000000, 40, [.str r3.2.f_s, .val (.int .i64 r3.2.f_at), .val (.bool (bif r3.2.f_bad then true else (r4.2 != 0)))])]) (ob := []) (by kernel_rfl) AllP.nil ?_
    refine To.thenN ?_
    refine Wp.seq ?_
    refine Wp.region hΓ [] [] [] [2, 3] [2, 1000000] (K' := [(2, .own 2 0), (3, .val (.bool (!(r3.1 == []))))]) (L' := [(2, 25, [.val (.int .i64 r4.1.f_Kind), .str r4.1.f_Text, .recs (α := List UInt8) [] E_string r4.1.f_Keys, .tree (α := S_api_Node) (S_api_Node.mk 0 [] [] []) pre_S_api_Node kids_S_api_Node r4.1.f_Kids]), (1000000, 40, [.str r3.2.f_s, .val (.int .i64 r3.2.f_at), .val (.bool (bif r3.2.f_bad then true else (r4.2 != 0)))])]) (ob := []) (by kernel_rfl) AllP.nil ?_
    refine To.thenN ?_
    refine Wp.ret ?_
    refine To.keep (kk := [2, 3]) (kl := [2, 1000000]) (K' := [(2, .own 2 0), (3, .val (.bool (!(r3.1 == []))))]) (L' := [(2, 25, [.val (.int .i64 r4.1.f_Kind), .str r4.1.f_Text, .recs (α := List UInt8) [] E_string r4.1.f_Keys, .tree (α := S_api_Node) (S_api_Node.mk 0 [] [] []) pre_S_api_Node kids_S_api_Node r4.1.f_Kids]), (1000000, 40, [.str r3.2.f_s, .val (.int .i64 r3.2.f_at), .val (.bool (bif r3.2.f_bad then true else (r4.2 != 0)))])]) (by kernel_rfl) (by kernel_rfl) ?_
    cases h
    exact To.doneB hΓ [1000000] (by kernel_rfl) (by kernel_rfl)
  · replace h := sum_r h
    refine To.thenR ?_
    refine To.keep (kk := [2, 3]) (kl := [2, 1000000]) (K' := [(2, .own 2 0), (3, .val (.bool o2.1))]) (L' := [(2, 25, [.val (.int .i64 o2.2.1.f_Kind), .str o2.2.1.f_Text, .recs (α := List UInt8) [] E_string o2.2.1.f_Keys, .tree (α := S_api_Node) (S_api_Node.mk 0 [] [] []) pre_S_api_Node kids_S_api_Node o2.2.1.f_Kids]), (1000000, 40, [.str o2.2.2.f_s, .val (.int .i64 o2.2.2.f_at), .val (.bool o2.2.2.f_bad)])]) (by kernel_rfl) (by kernel_rfl) ?_
    cases h
    exact To.doneB hΓ [1000000] (by kernel_rfl) (by kernel_rfl)
def flow_reader_value__o0 : Nat → S_flow_reader → Option (S_api_Node × Bool × S_flow_reader)
  | 0 => fun _ => none
  | n + 1 => flow_reader_value__o0_b (flow_reader_value__o0 n) n
theorem ok_flow_reader_value__o0 (n : Nat) : ∀ (h0 : S_flow_reader) (r : S_api_Node × Bool × S_flow_reader), flow_reader_value__o0 n h0 = some r → CallsB Tryd.prog 17 [.own 1000000 0] [(1000000, 40, [.str h0.f_s, .val (.int .i64 h0.f_at), .val (.bool h0.f_bad)])] (.tup [.agg [.val (.int .i64 r.1.f_Kind), .str r.1.f_Text, .recs (α := List UInt8) [] E_string r.1.f_Keys, .tree (α := S_api_Node) (S_api_Node.mk 0 [] [] []) pre_S_api_Node kids_S_api_Node r.1.f_Kids], .val (.bool r.2.1)]) [(1000000, 40, [.str r.2.2.f_s, .val (.int .i64 r.2.2.f_at), .val (.bool r.2.2.f_bad)])] := by
  induction n with
  | zero => intro h0 r h; cases h
  | succ n ih => exact fun h0 r h => ok_flow_reader_value__o0_b (flow_reader_value__o0 n) ih n h0 r h
structure S_node_budget where
  f_left : Int
def name_Sorted (n : Nat) (a0 : List (List UInt8)) : Option ((List (List UInt8))) :=
  if (decide ((List.length ([] : List (List UInt8)) + List.length a0) * (16 + 1) ≤ limit)) = true then (if (decide (List.length (([] : List (List UInt8)) ++ a0) * 17 ≤ limit)) = true then (if (decide (List.length (Sh.sort (([] : List (List UInt8)) ++ a0)) * 17 ≤ limit)) = true then (some (Lib.compact (Sh.sort (([] : List (List UInt8)) ++ a0)))) else none) else none) else none
theorem ok_name_Sorted (n : Nat) (a0 : List (List UInt8)) (r : (List (List UInt8))) (h : name_Sorted n a0 = some r) : CallsX Tryd.prog 50 [.recs (α := List UInt8) [] E_string a0] (.recs (α := List UInt8) [] E_string r) := by
  unfold name_Sorted at h
  refine callsX_of (fn := Tryd.f50) (by kernel_rfl) rfl (by kernel_rfl) (Nat.le_of_ble_eq_true (by kernel_rfl)) fun F0 w0 _ => ?_
  refine Wp.keep (kk := [0]) (kl := []) (K' := [(0, .recs (α := List UInt8) [] E_string a0)]) (L' := []) (by kernel_rfl) (by kernel_rfl) ?_
  refine Wp.seq ?_
  refine Wp.region hΓ [] [] [] [0] [] (K' := [(0, .recs (α := List UInt8) [] E_string a0)]) (L' := []) (ob := []) (by kernel_rfl) AllP.nil ?_
  refine To.thenN ?_
  refine Wp.seq ?_
  obtain ⟨hc3, h⟩ := chk_of h
  refine Wp.region hΓ [] [(0, .recs (α := List UInt8) [] E_string []), (2, .recs (α := List UInt8) [] E_string (([] : List (List UInt8)) ++ a0))] [] [3] [6] (K' := [(3, .row 6)]) (L' := [(6, 9, [.rowc false (α := List UInt8) [] E_string (([] : List (List UInt8)) ++ a0)])]) (ob := [(MkOb 1 [] 0 (.recs (α := List UInt8) [] E_string []) ∧ GoodR (.recs (α := List UInt8) [] E_string [])), (decide ((List.length ([] : List (List UInt8)) + List.length a0) * (16 + 1) ≤ limit)) = true, (AppOb [] E_string ([] : List (List UInt8)) (List.flatMap E_string a0) (List.length a0) (.recs (α := List UInt8) [] E_string (([] : List (List UInt8)) ++ a0)) ∧ GoodR (.recs (α := List UInt8) [] E_string (([] : List (List UInt8)) ++ a0)))]) (by kernel_rfl) (AllP.cons (mkOb (by kernel_rfl) rfl (by kernel_rfl) (good_E_string _)) (AllP.cons hc3 (AllP.cons (appOb rfl rfl (good_E_string _)) AllP.nil))) ?_
  refine To.thenN ?_
  refine Wp.seq ?_
  obtain ⟨u1, h⟩ := chk_of h
  refine Wp.region hΓ [] [] [(1, ⟨[(1000000, 6)], [(1000000, 6)], [.row 1000000], [(1000000, 9, [.rowc false (α := List UInt8) [] E_string (([] : List (List UInt8)) ++ a0)])], .tup [], [(1000000, 9, [.rowc false (α := List UInt8) [] E_string (Sh.sort (([] : List (List UInt8)) ++ a0))])]⟩)] [3] [6] (K' := [(3, .row 6)]) (L' := [(6, 9, [.rowc false (α := List UInt8) [] E_string (Sh.sort (([] : List (List UInt8)) ++ a0))])]) (ob := [CbOb (CallsB Tryd.prog) 59 [.row 6] [some (9, [.rowc false (α := List UInt8) [] E_string (([] : List (List UInt8)) ++ a0)])] ⟨[(1000000, 6)], [(1000000, 6)], [.row 1000000], [(1000000, 9, [.rowc false (α := List UInt8) [] E_string (([] : List (List UInt8)) ++ a0)])], .tup [], [(1000000, 9, [.rowc false (α := List UInt8) [] E_string (Sh.sort (([] : List (List UInt8)) ++ a0))])]⟩]) (by kernel_rfl) (AllP.cons (⟨Sh.sort59 u1, by kernel_rfl, by kernel_rfl⟩) AllP.nil) ?_
  refine To.thenN ?_
  refine Wp.seq ?_
  obtain ⟨u2, h⟩ := chk_of h
  refine Wp.region hΓ [] [] [(1, ⟨[(1000000, 6)], [], [.row 1000000], [(1000000, 9, [.rowc false (α := List UInt8) [] E_string (Sh.sort (([] : List (List UInt8)) ++ a0))])], .recs (α := List UInt8) [] E_string (Lib.compact (Sh.sort (([] : List (List UInt8)) ++ a0))), []⟩)] [2] [] (K' := [(2, .recs (α := List UInt8) [] E_string (Lib.compact (Sh.sort (([] : List (List UInt8)) ++ a0))))]) (L' := []) (ob := [CbOb (CallsB Tryd.prog) 60 [.row 6] [some (9, [.rowc false (α := List UInt8) [] E_string (Sh.sort (([] : List (List UInt8)) ++ a0))])] ⟨[(1000000, 6)], [], [.row 1000000], [(1000000, 9, [.rowc false (α := List UInt8) [] E_string (Sh.sort (([] : List (List UInt8)) ++ a0))])], .recs (α := List UInt8) [] E_string (Lib.compact (Sh.sort (([] : List (List UInt8)) ++ a0))), []⟩]) (by kernel_rfl) (AllP.cons (⟨Sh.compact60 u2, by kernel_rfl, by kernel_rfl⟩) AllP.nil) ?_
  refine To.thenN ?_
  refine Wp.ret ?_
  refine To.keep (kk := [2]) (kl := []) (K' := [(2, .recs (α := List UInt8) [] E_string (Lib.compact (Sh.sort (([] : List (List UInt8)) ++ a0))))]) (L' := []) (by kernel_rfl) (by kernel_rfl) ?_
  cases h
  exact To.done hΓ (by kernel_rfl)
def node_budget_right__o0_j1 (R_node_budget_right__o0 : S_api_Node → Int → S_node_budget → Option (Bool × S_node_budget)) (n : Nat) (v2 : Int) (v26 : Int) (b4 : S_api_Node) (b1000000 : S_node_budget) : Option (Sum (Unit) (Bool)) :=
  if (v26 == 0) = true then (lett ((bif (b4.f_Text == []) then ((IntKind.wrap .i64 ((List.length b4.f_Keys : Int) + (List.length b4.f_Kids : Int))) == 0) else false) : Bool) fun x1 =>
  some (.inr x1))
  else (if (v26 == 1) = true then (some (.inr ((IntKind.wrap .i64 ((List.length b4.f_Keys : Int) + (List.length b4.f_Kids : Int))) == 0)))
  else (if (v26 == 2) = true then (if (bif (!(b4.f_Text == [])) then true else (decide ((List.length b4.f_Keys : Int) > 0))) = true then (some (.inr false))
  else (some (.inl ())))
  else (if (v26 == 3) = true then (((if ((bif (bif (!(b4.f_Text == [])) then true else ((List.length b4.f_Keys : Int) != (List.length b4.f_Kids : Int))) then true else (decide ((List.length b4.f_Keys : Int) > b1000000.f_left))) == false) = true then name_Sorted n b4.f_Keys else some [])).bind fun r2 =>
  lett ((bif (bif (bif (!(b4.f_Text == [])) then true else ((List.length b4.f_Keys : Int) != (List.length b4.f_Kids : Int))) then true else (decide ((List.length b4.f_Keys : Int) > b1000000.f_left))) then true else ((List.length r2 : Int) != (List.length b4.f_Keys : Int))) : Bool) fun x3 =>
  if x3 = true then (some (.inr false))
  else (some (.inl ())))
  else (some (.inr false)))))
theorem ok_node_budget_right__o0_j1 (R_node_budget_right__o0 : S_api_Node → Int → S_node_budget → Option (Bool × S_node_budget)) (hR_node_budget_right__o0 : ∀ (a1 : S_api_Node) (a2 : Int) (h0 : S_node_budget) (r : Bool × S_node_budget), R_node_budget_right__o0 a1 a2 h0 = some r → CallsB Tryd.prog 36 [.own 1000000 0, .agg [.val (.int .i64 a1.f_Kind), .str a1.f_Text, .recs (α := List UInt8) [] E_string a1.f_Keys, .tree (α := S_api_Node) (S_api_Node.mk 0 [] [] []) pre_S_api_Node kids_S_api_Node a1.f_Kids], .val (.int .i64 a2)] [(1000000, 62, [.val (.int .i64 h0.f_left)])] (.val (.bool r.1)) [(1000000, 62, [.val (.int .i64 r.2.f_left)])]) (n : Nat) (v2 : Int) (v26 : Int) (b4 : S_api_Node) (b1000000 : S_node_budget) (o : Sum (Unit) (Bool)) (h : node_budget_right__o0_j1 R_node_budget_right__o0 n v2 v26 b4 b1000000 = some o) {F0 : Fz} {w0 : Pt Tryd.prog} {Q : Exit → Act → World → Prop} (hQ : (Sum.elim (fun s => To 111 F0 w0 [(0, .own 1000000 0), (2, .val (.int .i64 v2)), (4, .own 4 0)] [(4, 25, [.val (.int .i64 b4.f_Kind), .str b4.f_Text, .recs (α := List UInt8) [] E_string b4.f_Keys, .tree (α := S_api_Node) (S_api_Node.mk 0 [] [] []) pre_S_api_Node kids_S_api_Node b4.f_Kids]), (1000000, 62, [.val (.int .i64 b1000000.f_left)])] .normal Q) (fun s => To 111 F0 w0 [(6, .val (.bool s))] [(1000000, 62, [.val (.int .i64 b1000000.f_left)])] .ret Q)) o) : Wp Tryd.prog 111 F0 w0 [(0, .own 1000000 0), (2, .val (.int .i64 v2)), (4, .own 4 0), (26, .val (.int .i64 v26))] [(4, 25, [.val (.int .i64 b4.f_Kind), .str b4.f_Text, .recs (α := List UInt8) [] E_string b4.f_Keys, .tree (α := S_api_Node) (S_api_Node.mk 0 [] [] []) pre_S_api_Node kids_S_api_Node b4.f_Kids]), (1000000, 62, [.val (.int .i64 b1000000.f_left)])] (cB (cA (cB (cB (cF Tryd.f36))))) Q := by
  unfold node_budget_right__o0_j1 at h
  refine Wp.block ?_
  refine Wp.seq ?_
  refine Wp.region hΓ [] [] [] [0, 2, 4, 26, 27] [4, 1000000] (K' := [(0, .own 1000000 0), (2, .val (.int .i64 v2)), (4, .own 4 0), (26, .val (.int .i64 v26)), (27, .val (.bool (v26 == 0)))]) (L' := [(4, 25, [.val (.int .i64 b4.f_Kind), .str b4.f_Text, .recs (α := List UInt8) [] E_string b4.f_Keys, .tree (α := S_api_Node) (S_api_Node.mk 0 [] [] []) pre_S_api_Node kids_S_api_Node b4.f_Kids]), (1000000, 62, [.val (.int .i64 b1000000.f_left)])]) (ob := []) (by kernel_rfl) AllP.nil ?_
  refine To.thenN ?_
  refine Wp.cond (b := (v26 == 0)) (by kernel_rfl) (fun hb => ?_) (fun hb => ?_)
  · replace h := if_t hb h
    refine Wp.seq ?_
    obtain ⟨x1, hx1, h⟩ := lett_of h
    refine Wp.region hΓ [] [] [] [6] [1000000] (K' := [(6, .val (.bool (bif (b4.f_Text == []) then ((IntKind.wrap .i64 ((List.length b4.f_Keys : Int) + (List.length b4.f_Kids : Int))) == 0) else false)))]) (L' := [(1000000, 62, [.val (.int .i64 b1000000.f_left)])]) (ob := []) (by kernel_rfl) AllP.nil ?_
    refine To.eq (K' := [(6, .val (.bool x1))]) (L' := [(1000000, 62, [.val (.int .i64 b1000000.f_left)])]) (by cases hx1; rfl) (by cases hx1; rfl) ?_
    refine To.thenN ?_
    refine Wp.ret ?_
    refine To.blockR ?_
    refine To.keep (kk := [6]) (kl := [1000000]) (K' := [(6, .val (.bool x1))]) (L' := [(1000000, 62, [.val (.int .i64 b1000000.f_left)])]) (by kernel_rfl) (by kernel_rfl) ?_
    cases h
    exact hQ
  · replace h := if_f hb h
    refine Wp.seq ?_
    refine Wp.region hΓ [] [] [] [0, 2, 4, 26, 42] [4, 1000000] (K' := [(0, .own 1000000 0), (2, .val (.int .i64 v2)), (4, .own 4 0), (26, .val (.int .i64 v26)), (42, .val (.bool (v26 == 1)))]) (L' := [(4, 25, [.val (.int .i64 b4.f_Kind), .str b4.f_Text, .recs (α := List UInt8) [] E_string b4.f_Keys, .tree (α := S_api_Node) (S_api_Node.mk 0 [] [] []) pre_S_api_Node kids_S_api_Node b4.f_Kids]), (1000000, 62, [.val (.int .i64 b1000000.f_left)])]) (ob := []) (by kernel_rfl) AllP.nil ?_
    refine To.thenN ?_
    refine Wp.cond (b := (v26 == 1)) (by kernel_rfl) (fun hb => ?_) (fun hb => ?_)
    · replace h := if_t hb h
      refine Wp.seq ?_
      refine Wp.region hΓ [] [] [] [6] [1000000] (K' := [(6, .val (.bool ((IntKind.wrap .i64 ((List.length b4.f_Keys : Int) + (List.length b4.f_Kids : Int))) == 0)))]) (L' := [(1000000, 62, [.val (.int .i64 b1000000.f_left)])]) (ob := []) (by kernel_rfl) AllP.nil ?_
      refine To.thenN ?_
      refine Wp.ret ?_
      refine To.blockR ?_
      refine To.keep (kk := [6]) (kl := [1000000]) (K' := [(6, .val (.bool ((IntKind.wrap .i64 ((List.length b4.f_Keys : Int) + (List.length b4.f_Kids : Int))) == 0)))]) (L' := [(1000000, 62, [.val (.int .i64 b1000000.f_left)])]) (by kernel_rfl) (by kernel_rfl) ?_
      cases h
      exact hQ
    · replace h := if_f hb h
      refine Wp.seq ?_
      refine Wp.region hΓ [] [] [] [0, 2, 4, 26, 52] [4, 1000000] (K' := [(0, .own 1000000 0), (2, .val (.int .i64 v2)), (4, .own 4 0), (26, .val (.int .i64 v26)), (52, .val (.bool (v26 == 2)))]) (L' := [(4, 25, [.val (.int .i64 b4.f_Kind), .str b4.f_Text, .recs (α := List UInt8) [] E_string b4.f_Keys, .tree (α := S_api_Node) (S_api_Node.mk 0 [] [] []) pre_S_api_Node kids_S_api_Node b4.f_Kids]), (1000000, 62, [.val (.int .i64 b1000000.f_left)])]) (ob := []) (by kernel_rfl) AllP.nil ?_
      refine To.thenN ?_
      refine Wp.cond (b := (v26 == 2)) (by kernel_rfl) (fun hb => ?_) (fun hb => ?_)
      · replace h := if_t hb h
        refine Wp.seq ?_
        refine Wp.region hΓ [] [] [] [0, 2, 4, 62] [4, 1000000] (K' := [(0, .own 1000000 0), (2, .val (.int .i64 v2)), (4, .own 4 0), (62, .val (.bool (bif (!(b4.f_Text == [])) then true else (decide ((List.length b4.f_Keys : Int) > 0)))))]) (L' := [(4, 25, [.val (.int .i64 b4.f_Kind), .str b4.f_Text, .recs (α := List UInt8) [] E_string b4.f_Keys, .tree (α := S_api_Node) (S_api_Node.mk 0 [] [] []) pre_S_api_Node kids_S_api_Node b4.f_Kids]), (1000000, 62, [.val (.int .i64 b1000000.f_left)])]) (ob := []) (by kernel_rfl) AllP.nil ?_
        refine To.thenN ?_
        refine Wp.cond (b := (bif (!(b4.f_Text == [])) then true else (decide ((List.length b4.f_Keys : Int) > 0)))) (by kernel_rfl) (fun hb => ?_) (fun hb => ?_)
        · replace h := if_t hb h
          refine Wp.seq ?_
          refine Wp.region hΓ [] [] [] [6] [1000000] (K' := [(6, .val (.bool false))]) (L' := [(1000000, 62, [.val (.int .i64 b1000000.f_left)])]) (ob := []) (by kernel_rfl) AllP.nil ?_
          refine To.thenN ?_
          refine Wp.ret ?_
          refine To.blockR ?_
          refine To.keep (kk := [6]) (kl := [1000000]) (K' := [(6, .val (.bool false))]) (L' := [(1000000, 62, [.val (.int .i64 b1000000.f_left)])]) (by kernel_rfl) (by kernel_rfl) ?_
          cases h
          exact hQ
        · replace h := if_f hb h
          refine Wp.skip ?_
          refine To.blockN ?_
          refine To.keep (kk := [0, 2, 4]) (kl := [4, 1000000]) (K' := [(0, .own 1000000 0), (2, .val (.int .i64 v2)), (4, .own 4 0)]) (L' := [(4, 25, [.val (.int .i64 b4.f_Kind), .str b4.f_Text, .recs (α := List UInt8) [] E_string b4.f_Keys, .tree (α := S_api_Node) (S_api_Node.mk 0 [] [] []) pre_S_api_Node kids_S_api_Node b4.f_Kids]), (1000000, 62, [.val (.int .i64 b1000000.f_left)])]) (by kernel_rfl) (by kernel_rfl) ?_
          cases h
          exact hQ
      · replace h := if_f hb h
        refine Wp.seq ?_
        refine Wp.region hΓ [] [] [] [0, 2, 4, 63] [4, 1000000] (K' := [(0, .own 1000000 0), (2, .val (.int .i64 v2)), (4, .own 4 0), (63, .val (.bool (v26 == 3)))]) (L' := [(4, 25, [.val (.int .i64 b4.f_Kind), .str b4.f_Text, .recs (α := List UInt8) [] E_string b4.f_Keys, .tree (α := S_api_Node) (S_api_Node.mk 0 [] [] []) pre_S_api_Node kids_S_api_Node b4.f_Kids]), (1000000, 62, [.val (.int .i64 b1000000.f_left)])]) (ob := []) (by kernel_rfl) AllP.nil ?_
        refine To.thenN ?_
        refine Wp.cond (b := (v26 == 3)) (by kernel_rfl) (fun hb => ?_) (fun hb => ?_)
        · replace h := if_t hb h
          refine Wp.seq ?_
          obtain ⟨r2, hr2, h⟩ := bind_of h
          obtain ⟨x3, hx3, h⟩ := lett_of h
          refine Wp.regionD hm hΓ [(25, .recs (α := List UInt8) [] E_string r2)] [0, 2, 4, 96] [4, 1000000] (K' := [(0, .own 1000000 0), (2, .val (.int .i64 v2)), (4, .own 4 0), (96, .val (.bool (bif (bif (bif (!(b4.f_Text == [])) then true else ((List.length b4.f_Keys : Int) != (List.length b4.f_Kids : Int))) then true else (decide ((List.length b4.f_Keys : Int) > b1000000.f_left))) then true else ((List.length r2 : Int) != (List.length b4.f_Keys : Int)))))]) (L' := [(4, 25, [.val (.int .i64 b4.f_Kind), .str b4.f_Text, .recs (α := List UInt8) [] E_string b4.f_Keys, .tree (α := S_api_Node) (S_api_Node.mk 0 [] [] []) pre_S_api_Node kids_S_api_Node b4.f_Kids]), (1000000, 62, [.val (.int .i64 b1000000.f_left)])]) (ob := [(((bif (bif (!(b4.f_Text == [])) then true else ((List.length b4.f_Keys : Int) != (List.length b4.f_Kids : Int))) then true else (decide ((List.length b4.f_Keys : Int) > b1000000.f_left))) == false) = true → CX Tryd.prog 50 [.recs (α := List UInt8) [] E_string b4.f_Keys] (.recs (α := List UInt8) [] E_string r2))]) (by kernel_rfl) (AllP.cons (fun hg => cx (ok_name_Sorted n b4.f_Keys _ (if_t hg hr2))) AllP.nil) ?_
          refine To.eq (K' := [(0, .own 1000000 0), (2, .val (.int .i64 v2)), (4, .own 4 0), (96, .val (.bool x3))]) (L' := [(4, 25, [.val (.int .i64 b4.f_Kind), .str b4.f_Text, .recs (α := List UInt8) [] E_string b4.f_Keys, .tree (α := S_api_Node) (S_api_Node.mk 0 [] [] []) pre_S_api_Node kids_S_api_Node b4.f_Kids]), (1000000, 62, [.val (.int .i64 b1000000.f_left)])]) (by cases hx3; rfl) (by cases hx3; rfl) ?_
          refine To.thenN ?_
          refine Wp.cond (b := x3) (by kernel_rfl) (fun hb => ?_) (fun hb => ?_)
          · replace h := if_t hb h
            refine Wp.seq ?_
            refine Wp.region hΓ [] [] [] [6] [1000000] (K' := [(6, .val (.bool false))]) (L' := [(1000000, 62, [.val (.int .i64 b1000000.f_left)])]) (ob := []) (by kernel_rfl) AllP.nil ?_
            refine To.thenN ?_
            refine Wp.ret ?_
            refine To.blockR ?_
            refine To.keep (kk := [6]) (kl := [1000000]) (K' := [(6, .val (.bool false))]) (L' := [(1000000, 62, [.val (.int .i64 b1000000.f_left)])]) (by kernel_rfl) (by kernel_rfl) ?_
            cases h
            exact hQ
          · replace h := if_f hb h
            refine Wp.skip ?_
            refine To.blockN ?_
            refine To.keep (kk := [0, 2, 4]) (kl := [4, 1000000]) (K' := [(0, .own 1000000 0), (2, .val (.int .i64 v2)), (4, .own 4 0)]) (L' := [(4, 25, [.val (.int .i64 b4.f_Kind), .str b4.f_Text, .recs (α := List UInt8) [] E_string b4.f_Keys, .tree (α := S_api_Node) (S_api_Node.mk 0 [] [] []) pre_S_api_Node kids_S_api_Node b4.f_Kids]), (1000000, 62, [.val (.int .i64 b1000000.f_left)])]) (by kernel_rfl) (by kernel_rfl) ?_
            cases h
            exact hQ
        · replace h := if_f hb h
          refine Wp.seq ?_
          refine Wp.region hΓ [] [] [] [6] [1000000] (K' := [(6, .val (.bool false))]) (L' := [(1000000, 62, [.val (.int .i64 b1000000.f_left)])]) (ob := []) (by kernel_rfl) AllP.nil ?_
          refine To.thenN ?_
          refine Wp.ret ?_
          refine To.blockR ?_
          refine To.keep (kk := [6]) (kl := [1000000]) (K' := [(6, .val (.bool false))]) (L' := [(1000000, 62, [.val (.int .i64 b1000000.f_left)])]) (by kernel_rfl) (by kernel_rfl) ?_
          cases h
          exact hQ
def node_budget_right__o0_l2 (R_node_budget_right__o0 : S_api_Node → Int → S_node_budget → Option (Bool × S_node_budget)) (n : Nat) (v2 : Int) (v98 : List (S_api_Node)) (v99 : Int) : Nat → Int → S_node_budget → Option (Sum (S_node_budget) (Bool × S_node_budget))
  | 0, _, _ => none
  | k + 1, v100, b1000000 => if (decide (v100 < v99)) = true then (if (decide (0 ≤ v100 ∧ v100 < (List.length v98 : Int))) = true then ((R_node_budget_right__o0 ((v98)[Int.toNat v100]?.getD (S_api_Node.mk 0 [] [] [])) (IntKind.wrap .i64 (v2 + 1)) b1000000).bind fun r2 =>
  if (!r2.1) = true then (some (.inr (false, r2.2)))
  else (node_budget_right__o0_l2 R_node_budget_right__o0 n v2 v98 v99 k (IntKind.wrap .i64 (v100 + 1)) r2.2)) else none)
  else (some (.inl b1000000))
theorem ok_node_budget_right__o0_l2 (R_node_budget_right__o0 : S_api_Node → Int → S_node_budget → Option (Bool × S_node_budget)) (hR_node_budget_right__o0 : ∀ (a1 : S_api_Node) (a2 : Int) (h0 : S_node_budget) (r : Bool × S_node_budget), R_node_budget_right__o0 a1 a2 h0 = some r → CallsB Tryd.prog 36 [.own 1000000 0, .agg [.val (.int .i64 a1.f_Kind), .str a1.f_Text, .recs (α := List UInt8) [] E_string a1.f_Keys, .tree (α := S_api_Node) (S_api_Node.mk 0 [] [] []) pre_S_api_Node kids_S_api_Node a1.f_Kids], .val (.int .i64 a2)] [(1000000, 62, [.val (.int .i64 h0.f_left)])] (.val (.bool r.1)) [(1000000, 62, [.val (.int .i64 r.2.f_left)])]) (n : Nat) (v2 : Int) (v98 : List (S_api_Node)) (v99 : Int) {F0 : Fz} {w0 : Pt Tryd.prog} {Q : Exit → Act → World → Prop} (k : Nat) : ∀ (v100 : Int) (b1000000 : S_node_budget) (o : Sum (S_node_budget) (Bool × S_node_budget)), node_budget_right__o0_l2 R_node_budget_right__o0 n v2 v98 v99 k v100 b1000000 = some o → (Sum.elim (fun s => To 111 F0 w0 [] [(1000000, 62, [.val (.int .i64 s.f_left)])] (.exit 1) Q) (fun s => To 111 F0 w0 [(6, .val (.bool s.1))] [(1000000, 62, [.val (.int .i64 s.2.f_left)])] .ret Q)) o → WL Tryd.prog 111 F0 w0 [(0, .own 1000000 0), (2, .val (.int .i64 v2)), (98, .recs (α := S_api_Node) (S_api_Node.mk 0 [] [] []) E_api_Node v98), (99, .val (.int .i64 v99)), (100, .val (.int .i64 v100))] [(1000000, 62, [.val (.int .i64 b1000000.f_left)])] (cI (cI (cB (cA (cB (cB (cB (cF Tryd.f36)))))))) Q := by
  induction k with
  | zero => intro v100 b1000000 o h; cases h
  | succ k ih =>
    intro v100 b1000000 o h hQ
    rw [node_budget_right__o0_l2] at h
    refine WL.round ?_
    refine Wp.seq ?_
    refine Wp.region hΓ [] [] [] [0, 2, 98, 99, 100, 101] [1000000] (K' := [(0, .own 1000000 0), (2, .val (.int .i64 v2)), (98, .recs (α := S_api_Node) (S_api_Node.mk 0 [] [] []) E_api_Node v98), (99, .val (.int .i64 v99)), (100, .val (.int .i64 v100)), (101, .val (.bool (decide (v100 < v99))))]) (L' := [(1000000, 62, [.val (.int .i64 b1000000.f_left)])]) (ob := []) (by kernel_rfl) AllP.nil ?_
    refine To.thenN ?_
    refine Wp.seq ?_
    refine Wp.cond (b := (decide (v100 < v99))) (by kernel_rfl) (fun hb => ?_) (fun hb => ?_)
    · replace h := if_t hb h
      refine Wp.skip ?_
      refine To.thenN ?_
      refine Wp.seq ?_
      refine Wp.block ?_
      refine Wp.seq ?_
      obtain ⟨hc3, h⟩ := chk_of h
      refine Wp.region hΓ [] [] [] [0, 2, 8, 98, 99, 100] [8, 1000000] (K' := [(0, .own 1000000 0), (2, .val (.int .i64 v2)), (8, .own 8 0), (98, .recs (α := S_api_Node) (S_api_Node.mk 0 [] [] []) E_api_Node v98), (99, .val (.int .i64 v99)), (100, .val (.int .i64 v100))]) (L' := [(8, 25, [.val (.int .i64 (((v98)[Int.toNat v100]?.getD (S_api_Node.mk 0 [] [] [])).f_Kind)), .str (((v98)[Int.toNat v100]?.getD (S_api_Node.mk 0 [] [] [])).f_Text), .recs (α := List UInt8) [] E_string (((v98)[Int.toNat v100]?.getD (S_api_Node.mk 0 [] [] [])).f_Keys), .tree (α := S_api_Node) (S_api_Node.mk 0 [] [] []) pre_S_api_Node kids_S_api_Node (((v98)[Int.toNat v100]?.getD (S_api_Node.mk 0 [] [] [])).f_Kids)]), (1000000, 62, [.val (.int .i64 b1000000.f_left)])]) (ob := [(decide (0 ≤ v100 ∧ v100 < (List.length v98 : Int))) = true]) (by kernel_rfl) (AllP.cons hc3 AllP.nil) ?_
      refine To.thenN ?_
      refine Wp.seq ?_
      obtain ⟨r2, hr2, h⟩ := bind_of h
      refine Wp.region hΓ [] [] [(4, ⟨[(1000000, 1000000)], [(1000000, 1000000)], [.own 1000000 0, .agg [.val (.int .i64 (((v98)[Int.toNat v100]?.getD (S_api_Node.mk 0 [] [] [])).f_Kind)), .str (((v98)[Int.toNat v100]?.getD (S_api_Node.mk 0 [] [] [])).f_Text), .recs (α := List UInt8) [] E_string (((v98)[Int.toNat v100]?.getD (S_api_Node.mk 0 [] [] [])).f_Keys), .tree (α := S_api_Node) (S_api_Node.mk 0 [] [] []) pre_S_api_Node kids_S_api_Node (((v98)[Int.toNat v100]?.getD (S_api_Node.mk 0 [] [] [])).f_Kids)], .val (.int .i64 (IntKind.wrap .i64 (v2 + 1)))], [(1000000, 62, [.val (.int .i64 b1000000.f_left)])], .val (.bool r2.1), [(1000000, 62, [.val (.int .i64 r2.2.f_left)])]⟩)] [0, 2, 98, 99, 100, 109] [1000000] (K' := [(0, .own 1000000 0), (2, .val (.int .i64 v2)), (98, .recs (α := S_api_Node) (S_api_Node.mk 0 [] [] []) E_api_Node v98), (99, .val (.int .i64 v99)), (100, .val (.int .i64 v100)), (109, .val (.bool (!r2.1)))]) (L' := [(1000000, 62, [.val (.int .i64 r2.2.f_left)])]) (ob := [CbOb (CallsB Tryd.prog) 36 [.own 1000000 0, .agg [.val (.int .i64 (((v98)[Int.toNat v100]?.getD (S_api_Node.mk 0 [] [] [])).f_Kind)), .str (((v98)[Int.toNat v100]?.getD (S_api_Node.mk 0 [] [] [])).f_Text), .recs (α := List UInt8) [] E_string (((v98)[Int.toNat v100]?.getD (S_api_Node.mk 0 [] [] [])).f_Keys), .tree (α := S_api_Node) (S_api_Node.mk 0 [] [] []) pre_S_api_Node kids_S_api_Node (((v98)[Int.toNat v100]?.getD (S_api_Node.mk 0 [] [] [])).f_Kids)], .val (.int .i64 (IntKind.wrap .i64 (v2 + 1)))] [some (62, [.val (.int .i64 b1000000.f_left)])] ⟨[(1000000, 1000000)], [(1000000, 1000000)], [.own 1000000 0, .agg [.val (.int .i64 (((v98)[Int.toNat v100]?.getD (S_api_Node.mk 0 [] [] [])).f_Kind)), .str (((v98)[Int.toNat v100]?.getD (S_api_Node.mk 0 [] [] [])).f_Text), .recs (α := List UInt8) [] E_string (((v98)[Int.toNat v100]?.getD (S_api_Node.mk 0 [] [] [])).f_Keys), .tree (α := S_api_Node) (S_api_Node.mk 0 [] [] []) pre_S_api_Node kids_S_api_Node (((v98)[Int.toNat v100]?.getD (S_api_Node.mk 0 [] [] [])).f_Kids)], .val (.int .i64 (IntKind.wrap .i64 (v2 + 1)))], [(1000000, 62, [.val (.int .i64 b1000000.f_left)])], .val (.bool r2.1), [(1000000, 62, [.val (.int .i64 r2.2.f_left)])]⟩]) (by kernel_rfl) (AllP.cons (⟨(hR_node_budget_right__o0 ((v98)[Int.toNat v100]?.getD (S_api_Node.mk 0 [] [] [])) (IntKind.wrap .i64 (v2 + 1)) b1000000 _ hr2), by kernel_rfl, by kernel_rfl⟩) AllP.nil) ?_
      refine To.thenN ?_
      refine Wp.cond (b := (!r2.1)) (by kernel_rfl) (fun hb => ?_) (fun hb => ?_)
      · replace h := if_t hb h
        refine Wp.seq ?_
        refine Wp.region hΓ [] [] [] [6] [1000000] (K' := [(6, .val (.bool false))]) (L' := [(1000000, 62, [.val (.int .i64 r2.2.f_left)])]) (ob := []) (by kernel_rfl) AllP.nil ?_
        refine To.thenN ?_
        refine Wp.ret ?_
        refine To.blockR ?_
        refine To.thenR ?_
        refine To.thenR ?_
        refine To.keep (kk := [6]) (kl := [1000000]) (K' := [(6, .val (.bool false))]) (L' := [(1000000, 62, [.val (.int .i64 r2.2.f_left)])]) (by kernel_rfl) (by kernel_rfl) ?_
        cases h
        exact hQ
      · replace h := if_f hb h
        refine Wp.skip ?_
        refine To.blockN ?_
        refine To.thenN ?_
        refine Wp.region hΓ [] [] [] [0, 2, 98, 99, 100] [1000000] (K' := [(0, .own 1000000 0), (2, .val (.int .i64 v2)), (98, .recs (α := S_api_Node) (S_api_Node.mk 0 [] [] []) E_api_Node v98), (99, .val (.int .i64 v99)), (100, .val (.int .i64 (IntKind.wrap .i64 (v100 + 1))))]) (L' := [(1000000, 62, [.val (.int .i64 r2.2.f_left)])]) (ob := []) (by kernel_rfl) AllP.nil ?_
        refine To.keep (kk := [0, 2, 98, 99, 100]) (kl := [1000000]) (K' := [(0, .own 1000000 0), (2, .val (.int .i64 v2)), (98, .recs (α := S_api_Node) (S_api_Node.mk 0 [] [] []) E_api_Node v98), (99, .val (.int .i64 v99)), (100, .val (.int .i64 (IntKind.wrap .i64 (v100 + 1))))]) (L' := [(1000000, 62, [.val (.int .i64 r2.2.f_left)])]) (by kernel_rfl) (by kernel_rfl) ?_
        refine To.again ?_
        exact ih (IntKind.wrap .i64 (v100 + 1)) r2.2 _ h hQ
    · replace h := if_f hb h
      refine Wp.exit ?_
      refine To.thenX ?_
      refine To.thenX ?_
      refine To.keep (kk := []) (kl := [1000000]) (K' := []) (L' := [(1000000, 62, [.val (.int .i64 b1000000.f_left)])]) (by kernel_rfl) (by kernel_rfl) ?_
      cases h
      exact hQ
def node_budget_right__o0_b (R_node_budget_right__o0 : S_api_Node → Int → S_node_budget → Option (Bool × S_node_budget)) (n : Nat) (a1 : S_api_Node) (a2 : Int) (h0 : S_node_budget) : Option (Bool × S_node_budget) :=
  if (bif (decide ((IntKind.wrap .i64 (h0.f_left - 1)) < 0)) then true else (decide (a2 > 12))) = true then (some (false, (S_node_budget.mk (IntKind.wrap .i64 (h0.f_left - 1)))))
  else ((node_budget_right__o0_j1 R_node_budget_right__o0 n a2 a1.f_Kind a1 (S_node_budget.mk (IntKind.wrap .i64 (h0.f_left - 1)))).bind fun o1 =>
  (Sum.elim (fun o1 => (node_budget_right__o0_l2 R_node_budget_right__o0 n a2 a1.f_Kids (List.length a1.f_Kids : Int) n 0 (S_node_budget.mk (IntKind.wrap .i64 (h0.f_left - 1)))).bind fun o2 =>
  (Sum.elim (fun o2 => some (true, o2)) (fun o2 => some (o2.1, o2.2))) o2) (fun o1 => some (o1, (S_node_budget.mk (IntKind.wrap .i64 (h0.f_left - 1)))))) o1)
theorem ok_node_budget_right__o0_b (R_node_budget_right__o0 : S_api_Node → Int → S_node_budget → Option (Bool × S_node_budget)) (hR_node_budget_right__o0 : ∀ (a1 : S_api_Node) (a2 : Int) (h0 : S_node_budget) (r : Bool × S_node_budget), R_node_budget_right__o0 a1 a2 h0 = some r → CallsB Tryd.prog 36 [.own 1000000 0, .agg [.val (.int .i64 a1.f_Kind), .str a1.f_Text, .recs (α := List UInt8) [] E_string a1.f_Keys, .tree (α := S_api_Node) (S_api_Node.mk 0 [] [] []) pre_S_api_Node kids_S_api_Node a1.f_Kids], .val (.int .i64 a2)] [(1000000, 62, [.val (.int .i64 h0.f_left)])] (.val (.bool r.1)) [(1000000, 62, [.val (.int .i64 r.2.f_left)])]) (n : Nat) (a1 : S_api_Node) (a2 : Int) (h0 : S_node_budget) (r : Bool × S_node_budget) (h : node_budget_right__o0_b R_node_budget_right__o0 n a1 a2 h0 = some r) : CallsB Tryd.prog 36 [.own 1000000 0, .agg [.val (.int .i64 a1.f_Kind), .str a1.f_Text, .recs (α := List UInt8) [] E_string a1.f_Keys, .tree (α := S_api_Node) (S_api_Node.mk 0 [] [] []) pre_S_api_Node kids_S_api_Node a1.f_Kids], .val (.int .i64 a2)] [(1000000, 62, [.val (.int .i64 h0.f_left)])] (.val (.bool r.1)) [(1000000, 62, [.val (.int .i64 r.2.f_left)])] := by
  unfold node_budget_right__o0_b at h
  refine callsB_of (fn := Tryd.f36) (by kernel_rfl) rfl (by kernel_rfl) (Nat.le_of_ble_eq_true (by kernel_rfl)) fun F0 w0 => ?_
  refine Wp.keep (kk := [0, 1, 2]) (kl := [1000000]) (K' := [(0, .own 1000000 0), (1, .agg [.val (.int .i64 a1.f_Kind), .str a1.f_Text, .recs (α := List UInt8) [] E_string a1.f_Keys, .tree (α := S_api_Node) (S_api_Node.mk 0 [] [] []) pre_S_api_Node kids_S_api_Node a1.f_Kids]), (2, .val (.int .i64 a2))]) (L' := [(1000000, 62, [.val (.int .i64 h0.f_left)])]) (by kernel_rfl) (by kernel_rfl) ?_
  refine Wp.seq ?_
  refine Wp.region hΓ [] [] [] [0, 2, 4] [4, 1000000] (K' := [(0, .own 1000000 0), (2, .val (.int .i64 a2)), (4, .own 4 0)]) (L' := [(4, 25, [.val (.int .i64 a1.f_Kind), .str a1.f_Text, .recs (α := List UInt8) [] E_string a1.f_Keys, .tree (α := S_api_Node) (S_api_Node.mk 0 [] [] []) pre_S_api_Node kids_S_api_Node a1.f_Kids]), (1000000, 62, [.val (.int .i64 h0.f_left)])]) (ob := []) (by kernel_rfl) AllP.nil ?_
  refine To.thenN ?_
  refine Wp.seq ?_
  refine Wp.seq ?_
  refine Wp.region hΓ [] [] [] [0, 2, 4] [4, 1000000] (K' := [(0, .own 1000000 0), (2, .val (.int .i64 a2)), (4, .own 4 0)]) (L' := [(4, 25, [.val (.int .i64 a1.f_Kind), .str a1.f_Text, .recs (α := List UInt8) [] E_string a1.f_Keys, .tree (α := S_api_Node) (S_api_Node.mk 0 [] [] []) pre_S_api_Node kids_S_api_Node a1.f_Kids]), (1000000, 62, [.val (.int .i64 (IntKind.wrap .i64 (h0.f_left - 1)))])]) (ob := []) (by kernel_rfl) AllP.nil ?_
  refine To.thenN ?_
  refine Wp.seq ?_
  refine Wp.region hΓ [] [] [] [0, 2, 4, 24] [4, 1000000] (K' := [(0, .own 1000000 0), (2, .val (.int .i64 a2)), (4, .own 4 0), (24, .val (.bool (bif (decide ((IntKind.wrap .i64 (h0.f_left - 1)) < 0)) then true else (decide (a2 > 12)))))]) (L' := [(4, 25, [.val (.int .i64 a1.f_Kind), .str a1.f_Text, .recs (α := List UInt8) [] E_string a1.f_Keys, .tree (α := S_api_Node) (S_api_Node.mk 0 [] [] []) pre_S_api_Node kids_S_api_Node a1.f_Kids]), (1000000, 62, [.val (.int .i64 (IntKind.wrap .i64 (h0.f_left - 1)))])]) (ob := []) (by kernel_rfl) AllP.nil ?_
  refine To.thenN ?_
  refine Wp.cond (b := (bif (decide ((IntKind.wrap .i64 (h0.f_left - 1)) < 0)) then true else (decide (a2 > 12)))) (by kernel_rfl) (fun hb => ?_) (fun hb => ?_)
  · replace h := if_t hb h
    refine Wp.seq ?_
    refine Wp.region hΓ [] [] [] [6] [1000000] (K' := [(6, .val (.bool false))]) (L' := [(1000000, 62, [.val (.int .i64 (IntKind.wrap .i64 (h0.f_left - 1)))])]) (ob := []) (by kernel_rfl) AllP.nil ?_
    refine To.thenN ?_
    refine Wp.ret ?_
    refine To.thenR ?_
    refine To.keep (kk := [6]) (kl := [1000000]) (K' := [(6, .val (.bool false))]) (L' := [(1000000, 62, [.val (.int .i64 (IntKind.wrap .i64 (h0.f_left - 1)))])]) (by kernel_rfl) (by kernel_rfl) ?_
    cases h
    exact To.doneB hΓ [1000000] (by kernel_rfl) (by kernel_rfl)
  · replace h := if_f hb h
    refine Wp.skip ?_
    refine To.thenN ?_
    refine Wp.seq ?_
    refine Wp.seq ?_
    refine Wp.region hΓ [] [] [] [0, 2, 4, 26] [4, 1000000] (K' := [(0, .own 1000000 0), (2, .val (.int .i64 a2)), (4, .own 4 0), (26, .val (.int .i64 a1.f_Kind))]) (L' := [(4, 25, [.val (.int .i64 a1.f_Kind), .str a1.f_Text, .recs (α := List UInt8) [] E_string a1.f_Keys, .tree (α := S_api_Node) (S_api_Node.mk 0 [] [] []) pre_S_api_Node kids_S_api_Node a1.f_Kids]), (1000000, 62, [.val (.int .i64 (IntKind.wrap .i64 (h0.f_left - 1)))])]) (ob := []) (by kernel_rfl) AllP.nil ?_
    refine To.thenN ?_
    obtain ⟨o1, ho1, h⟩ := bind_of h
    refine Wp.keep (kk := [0, 2, 4, 26]) (kl := [4, 1000000]) (K' := [(0, .own 1000000 0), (2, .val (.int .i64 a2)), (4, .own 4 0), (26, .val (.int .i64 a1.f_Kind))]) (L' := [(4, 25, [.val (.int .i64 a1.f_Kind), .str a1.f_Text, .recs (α := List UInt8) [] E_string a1.f_Keys, .tree (α := S_api_Node) (S_api_Node.mk 0 [] [] []) pre_S_api_Node kids_S_api_Node a1.f_Kids]), (1000000, 62, [.val (.int .i64 (IntKind.wrap .i64 (h0.f_left - 1)))])]) (by kernel_rfl) (by kernel_rfl) ?_
    refine ok_node_budget_right__o0_j1 R_node_budget_right__o0 hR_node_budget_right__o0 n a2 a1.f_Kind a1 (S_node_budget.mk (IntKind.wrap .i64 (h0.f_left - 1))) o1 ho1 ?_
    rcases o1 with o1 | o1
    · replace h := sum_l h
      refine To.thenN ?_
      refine Wp.seq ?_
      refine Wp.seq ?_
      refine Wp.region hΓ [] [] [] [0, 2, 98, 99, 100] [1000000] (K' := [(0, .own 1000000 0), (2, .val (.int .i64 a2)), (98, .tree (α := S_api_Node) (S_api_Node.mk 0 [] [] []) pre_S_api_Node kids_S_api_Node a1.f_Kids), (99, .val (.int .i64 (List.length a1.f_Kids : Int))), (100, .val (.int .i64 0))]) (L' := [(1000000, 62, [.val (.int .i64 (IntKind.wrap .i64 (h0.f_left - 1)))])]) (ob := []) (by kernel_rfl) AllP.nil ?_
      refine To.thenN ?_
      refine Wp.block ?_
      obtain ⟨o2, ho2, h⟩ := bind_of h
      refine Wp.keep (kk := [0, 2, 98, 99, 100]) (kl := [1000000]) (K' := [(0, .own 1000000 0), (2, .val (.int .i64 a2)), (98, .tree (α := S_api_Node) (S_api_Node.mk 0 [] [] []) pre_S_api_Node kids_S_api_Node a1.f_Kids), (99, .val (.int .i64 (List.length a1.f_Kids : Int))), (100, .val (.int .i64 0))]) (L' := [(1000000, 62, [.val (.int .i64 (IntKind.wrap .i64 (h0.f_left - 1)))])]) (by kernel_rfl) (by kernel_rfl) ?_
      refine Wp.weak (K' := [(0, .own 1000000 0), (2, .val (.int .i64 a2)), (98, .recs (α := S_api_Node) (S_api_Node.mk 0 [] [] []) E_api_Node a1.f_Kids), (99, .val (.int .i64 (List.length a1.f_Kids : Int))), (100, .val (.int .i64 0))]) (L' := [(1000000, 62, [.val (.int .i64 (IntKind.wrap .i64 (h0.f_left - 1)))])]) (.cons (.refl _) (.cons (.refl _) (.cons (.opn _ _ _ _) (.cons (.refl _) (.cons (.refl _) .nil))))) (.cons (.cons (.refl _) .nil) .nil) ?_
      refine Wp.loopL ?_
      refine ok_node_budget_right__o0_l2 R_node_budget_right__o0 hR_node_budget_right__o0 n a2 a1.f_Kids (List.length a1.f_Kids : Int) n 0 (S_node_budget.mk (IntKind.wrap .i64 (h0.f_left - 1))) o2 ho2 ?_
      rcases o2 with o2 | o2
      · replace h := sum_l h
        refine To.blockX ?_
        refine To.thenN ?_
        refine Wp.seq ?_
        refine Wp.region hΓ [] [] [] [6] [1000000] (K' := [(6, .val (.bool true))]) (L' := [(1000000, 62, [.val (.int .i64 o2.f_left)])]) (ob := []) (by kernel_rfl) AllP.nil ?_
        refine To.thenN ?_
        refine Wp.ret ?_
        refine To.keep (kk := [6]) (kl := [1000000]) (K' := [(6, .val (.bool true))]) (L' := [(1000000, 62, [.val (.int .i64 o2.f_left)])]) (by kernel_rfl) (by kernel_rfl) ?_
        cases h
        exact To.doneB hΓ [1000000] (by kernel_rfl) (by kernel_rfl)
      · replace h := sum_r h
        refine To.blockR ?_
        refine To.thenR ?_
        refine To.keep (kk := [6]) (kl := [1000000]) (K' := [(6, .val (.bool o2.1))]) (L' := [(1000000, 62, [.val (.int .i64 o2.2.f_left)])]) (by kernel_rfl) (by kernel_rfl) ?_
        cases h
        exact To.doneB hΓ [1000000] (by kernel_rfl) (by kernel_rfl)
    · replace h := sum_r h
      refine To.thenR ?_
      refine To.keep (kk := [6]) (kl := [1000000]) (K' := [(6, .val (.bool o1))]) (L' := [(1000000, 62, [.val (.int .i64 (IntKind.wrap .i64 (h0.f_left - 1)))])]) (by kernel_rfl) (by kernel_rfl) ?_
      cases h
      exact To.doneB hΓ [1000000] (by kernel_rfl) (by kernel_rfl)
def node_budget_right__o0 : Nat → S_api_Node → Int → S_node_budget → Option (Bool × S_node_budget)
  | 0 => fun _ _ _ => none
  | n + 1 => node_budget_right__o0_b (node_budget_right__o0 n) n
theorem ok_node_budget_right__o0 (n : Nat) : ∀ (a1 : S_api_Node) (a2 : Int) (h0 : S_node_budget) (r : Bool × S_node_budget), node_budget_right__o0 n a1 a2 h0 = some r → CallsB Tryd.prog 36 [.own 1000000 0, .agg [.val (.int .i64 a1.f_Kind), .str a1.f_Text, .recs (α := List UInt8) [] E_string a1.f_Keys, .tree (α := S_api_Node) (S_api_Node.mk 0 [] [] []) pre_S_api_Node kids_S_api_Node a1.f_Kids], .val (.int .i64 a2)] [(1000000, 62, [.val (.int .i64 h0.f_left)])] (.val (.bool r.1)) [(1000000, 62, [.val (.int .i64 r.2.f_left)])] := by
  induction n with
  | zero => intro a1 a2 h0 r h; cases h
  | succ n ih => exact fun a1 a2 h0 r h => ok_node_budget_right__o0_b (node_budget_right__o0 n) ih n a1 a2 h0 r h
def node_Right (n : Nat) (a0 : S_api_Node) : Option (Bool) :=
  (node_budget_right__o0 n a0 1 (S_node_budget.mk 2000)).bind fun r1 =>
  some r1.1
theorem ok_node_Right (n : Nat) (a0 : S_api_Node) (r : Bool) (h : node_Right n a0 = some r) : CallsX Tryd.prog 19 [.agg [.val (.int .i64 a0.f_Kind), .str a0.f_Text, .recs (α := List UInt8) [] E_string a0.f_Keys, .tree (α := S_api_Node) (S_api_Node.mk 0 [] [] []) pre_S_api_Node kids_S_api_Node a0.f_Kids]] (.val (.bool r)) := by
  unfold node_Right at h
  refine callsX_of (fn := Tryd.f19) (by kernel_rfl) rfl (by kernel_rfl) (Nat.le_of_ble_eq_true (by kernel_rfl)) fun F0 w0 _ => ?_
  refine Wp.keep (kk := [0]) (kl := []) (K' := [(0, .agg [.val (.int .i64 a0.f_Kind), .str a0.f_Text, .recs (α := List UInt8) [] E_string a0.f_Keys, .tree (α := S_api_Node) (S_api_Node.mk 0 [] [] []) pre_S_api_Node kids_S_api_Node a0.f_Kids])]) (L' := []) (by kernel_rfl) (by kernel_rfl) ?_
  refine Wp.seq ?_
  refine Wp.region hΓ [] [] [] [1] [1] (K' := [(1, .own 1 0)]) (L' := [(1, 25, [.val (.int .i64 a0.f_Kind), .str a0.f_Text, .recs (α := List UInt8) [] E_string a0.f_Keys, .tree (α := S_api_Node) (S_api_Node.mk 0 [] [] []) pre_S_api_Node kids_S_api_Node a0.f_Kids])]) (ob := []) (by kernel_rfl) AllP.nil ?_
  refine To.thenN ?_
  refine Wp.seq ?_
  refine Wp.region hΓ [] [] [] [1, 3] [1, 3] (K' := [(1, .own 1 0), (3, .own 3 0)]) (L' := [(1, 25, [.val (.int .i64 a0.f_Kind), .str a0.f_Text, .recs (α := List UInt8) [] E_string a0.f_Keys, .tree (α := S_api_Node) (S_api_Node.mk 0 [] [] []) pre_S_api_Node kids_S_api_Node a0.f_Kids]), (3, 62, [.val (.int .i64 2000)])]) (ob := []) (by kernel_rfl) AllP.nil ?_
  refine To.thenN ?_
  refine Wp.seq ?_
  obtain ⟨r1, hr1, h⟩ := bind_of h
  refine Wp.region hΓ [] [] [(1, ⟨[(1000000, 3)], [(1000000, 3)], [.own 1000000 0, .agg [.val (.int .i64 a0.f_Kind), .str a0.f_Text, .recs (α := List UInt8) [] E_string a0.f_Keys, .tree (α := S_api_Node) (S_api_Node.mk 0 [] [] []) pre_S_api_Node kids_S_api_Node a0.f_Kids], .val (.int .i64 1)], [(1000000, 62, [.val (.int .i64 2000)])], .val (.bool r1.1), [(1000000, 62, [.val (.int .i64 r1.2.f_left)])]⟩)] [2] [] (K' := [(2, .val (.bool r1.1))]) (L' := []) (ob := [CbOb (CallsB Tryd.prog) 36 [.own 3 0, .agg [.val (.int .i64 a0.f_Kind), .str a0.f_Text, .recs (α := List UInt8) [] E_string a0.f_Keys, .tree (α := S_api_Node) (S_api_Node.mk 0 [] [] []) pre_S_api_Node kids_S_api_Node a0.f_Kids], .val (.int .i64 1)] [some (62, [.val (.int .i64 2000)])] ⟨[(1000000, 3)], [(1000000, 3)], [.own 1000000 0, .agg [.val (.int .i64 a0.f_Kind), .str a0.f_Text, .recs (α := List UInt8) [] E_string a0.f_Keys, .tree (α := S_api_Node) (S_api_Node.mk 0 [] [] []) pre_S_api_Node kids_S_api_Node a0.f_Kids], .val (.int .i64 1)], [(1000000, 62, [.val (.int .i64 2000)])], .val (.bool r1.1), [(1000000, 62, [.val (.int .i64 r1.2.f_left)])]⟩]) (by kernel_rfl) (AllP.cons (⟨(ok_node_budget_right__o0 n a0 1 (S_node_budget.mk 2000) _ hr1), by kernel_rfl, by kernel_rfl⟩) AllP.nil) ?_
  refine To.thenN ?_
  refine Wp.ret ?_
  refine To.keep (kk := [2]) (kl := []) (K' := [(2, .val (.bool r1.1))]) (L' := []) (by kernel_rfl) (by kernel_rfl) ?_
  cases h
  exact To.done hΓ (by kernel_rfl)
def flow_Parse (n : Nat) (a0 : List UInt8) : Option (S_api_Node × Int) :=
  (flow_reader_value__o0 n (S_flow_reader.mk a0 0 false)).bind fun r1 =>
  ((if (r1.2.2.f_bad == false) = true then flow_reader_next__o0 n r1.2.2 else some (0, r1.2.2))).bind fun r2 =>
  if (bif (bif r1.2.2.f_bad then true else (r2.1 != 0)) then true else (decide (r2.2.f_at < (List.length a0 : Int)))) = true then (some ((S_api_Node.mk 0 [] [] []), 3))
  else ((node_Right n r1.1).bind fun r3 =>
  if (!r3) = true then (some ((S_api_Node.mk 0 [] [] []), 9))
  else (some (r1.1, 0)))
theorem ok_flow_Parse (n : Nat) (a0 : List UInt8) (r : S_api_Node × Int) (h : flow_Parse n a0 = some r) : CallsX Tryd.prog 9 [.str a0] (.tup [.agg [.val (.int .i64 r.1.f_Kind), .str r.1.f_Text, .recs (α := List UInt8) [] E_string r.1.f_Keys, .tree (α := S_api_Node) (S_api_Node.mk 0 [] [] []) pre_S_api_Node kids_S_api_Node r.1.f_Kids], .val (.int .i64 r.2)]) := by
  unfold flow_Parse at h
  refine callsX_of (fn := Tryd.f9) (by kernel_rfl) rfl (by kernel_rfl) (Nat.le_of_ble_eq_true (by kernel_rfl)) fun F0 w0 _ => ?_
  refine Wp.keep (kk := [0]) (kl := []) (K' := [(0, .str a0)]) (L' := []) (by kernel_rfl) (by kernel_rfl) ?_
  refine Wp.seq ?_
  refine Wp.region hΓ [] [] [] [0, 2] [2] (K' := [(0, .str a0), (2, .own 2 0)]) (L' := [(2, 25, [.val (.int .i64 0), .str [], .val (.slice none 0 0), .val (.slice none 0 0)])]) (ob := []) (by kernel_rfl) AllP.nil ?_
  refine To.thenN ?_
  refine Wp.seq ?_
  refine Wp.region hΓ [] [] [] [0, 2, 4] [2, 4] (K' := [(0, .str a0), (2, .own 2 0), (4, .own 4 0)]) (L' := [(2, 25, [.val (.int .i64 0), .str [], .val (.slice none 0 0), .val (.slice none 0 0)]), (4, 40, [.str a0, .val (.int .i64 0), .val (.bool false)])]) (ob := []) (by kernel_rfl) AllP.nil ?_
  refine To.thenN ?_
  refine Wp.seq ?_
  obtain ⟨r1, hr1, h⟩ := bind_of h
  refine Wp.region hΓ [] [] [(0, ⟨[(1000000, 4)], [(1000000, 4)], [.own 1000000 0], [(1000000, 40, [.str a0, .val (.int .i64 0), .val (.bool false)])], .tup [.agg [.val (.int .i64 r1.1.f_Kind), .str r1.1.f_Text, .recs (α := List UInt8) [] E_string r1.1.f_Keys, .tree (α := S_api_Node) (S_api_Node.mk 0 [] [] []) pre_S_api_Node kids_S_api_Node r1.1.f_Kids], .val (.bool r1.2.1)], [(1000000, 40, [.str r1.2.2.f_s, .val (.int .i64 r1.2.2.f_at), .val (.bool r1.2.2.f_bad)])]⟩)] [0, 2, 4, 5] [2, 4, 5] (K' := [(0, .str a0), (2, .own 2 0), (4, .own 4 0), (5, .own 5 0)]) (L' := [(2, 25, [.val (.int .i64 0), .str [], .val (.slice none 0 0), .val (.slice none 0 0)]), (4, 40, [.str r1.2.2.f_s, .val (.int .i64 r1.2.2.f_at), .val (.bool r1.2.2.f_bad)]), (5, 25, [.val (.int .i64 r1.1.f_Kind), .str r1.1.f_Text, .recs (α := List UInt8) [] E_string r1.1.f_Keys, .tree (α := S_api_Node) (S_api_Node.mk 0 [] [] []) pre_S_api_Node kids_S_api_Node r1.1.f_Kids])]) (ob := [CbOb (CallsB Tryd.prog) 17 [.own 4 0] [some (40, [.str a0, .val (.int .i64 0), .val (.bool false)])] ⟨[(1000000, 4)], [(1000000, 4)], [.own 1000000 0], [(1000000, 40, [.str a0, .val (.int .i64 0), .val (.bool false)])], .tup [.agg [.val (.int .i64 r1.1.f_Kind), .str r1.1.f_Text, .recs (α := List UInt8) [] E_string r1.1.f_Keys, .tree (α := S_api_Node) (S_api_Node.mk 0 [] [] []) pre_S_api_Node kids_S_api_Node r1.1.f_Kids], .val (.bool r1.2.1)], [(1000000, 40, [.str r1.2.2.f_s, .val (.int .i64 r1.2.2.f_at), .val (.bool r1.2.2.f_bad)])]⟩]) (by kernel_rfl) (AllP.cons (⟨(ok_flow_reader_value__o0 n (S_flow_reader.mk a0 0 false) _ hr1), by kernel_rfl, by kernel_rfl⟩) AllP.nil) ?_
  refine To.thenN ?_
  refine Wp.seq ?_
  refine Wp.block ?_
  refine Wp.seq ?_
  obtain ⟨r2, hr2, h⟩ := bind_of h
  refine Wp.region hΓ [] [] [(3, ⟨[(1000000, 4)], [(1000000, 4)], [.own 1000000 0], [(1000000, 40, [.str r1.2.2.f_s, .val (.int .i64 r1.2.2.f_at), .val (.bool r1.2.2.f_bad)])], .val (.int .u8 r2.1), [(1000000, 40, [.str r2.2.f_s, .val (.int .i64 r2.2.f_at), .val (.bool r2.2.f_bad)])]⟩)] [2, 5, 13] [2, 5] (K' := [(2, .own 2 0), (5, .own 5 0), (13, .val (.bool (bif (bif r1.2.2.f_bad then true else (r2.1 != 0)) then true else (decide (r2.2.f_at < (List.length a0 : Int))))))]) (L' := [(2, 25, [.val (.int .i64 0), .str [], .val (.slice none 0 0), .val (.slice none 0 0)]), (5, 25, [.val (.int .i64 r1.1.f_Kind), .str r1.1.f_Text, .recs (α := List UInt8) [] E_string r1.1.f_Keys, .tree (α := S_api_Node) (S_api_Node.mk 0 [] [] []) pre_S_api_Node kids_S_api_Node r1.1.f_Kids])]) (ob := [((r1.2.2.f_bad == false) = true → CbOb (CallsB Tryd.prog) 18 [.own 4 0] [some (40, [.str r1.2.2.f_s, .val (.int .i64 r1.2.2.f_at), .val (.bool r1.2.2.f_bad)])] ⟨[(1000000, 4)], [(1000000, 4)], [.own 1000000 0], [(1000000, 40, [.str r1.2.2.f_s, .val (.int .i64 r1.2.2.f_at), .val (.bool r1.2.2.f_bad)])], .val (.int .u8 r2.1), [(1000000, 40, [.str r2.2.f_s, .val (.int .i64 r2.2.f_at), .val (.bool r2.2.f_bad)])]⟩), ((r1.2.2.f_bad == false) = false → KeepOb [(4, 40, [.str r1.2.2.f_s, .val (.int .i64 r1.2.2.f_at), .val (.bool r1.2.2.f_bad)])] ⟨[(1000000, 4)], [(1000000, 4)], [.own 1000000 0], [(1000000, 40, [.str r1.2.2.f_s, .val (.int .i64 r1.2.2.f_at), .val (.bool r1.2.2.f_bad)])], .val (.int .u8 r2.1), [(1000000, 40, [.str r2.2.f_s, .val (.int .i64 r2.2.f_at), .val (.bool r2.2.f_bad)])]⟩)]) (by kernel_rfl) (AllP.cons (fun hg => ⟨(ok_flow_reader_next__o0 n r1.2.2 _ (if_t hg hr2)), by kernel_rfl, by kernel_rfl⟩) (AllP.cons (fun hg => by cases if_f hg hr2; exact keepOb (by kernel_rfl)) AllP.nil)) ?_
  refine To.thenN ?_
  refine Wp.cond (b := (bif (bif r1.2.2.f_bad then true else (r2.1 != 0)) then true else (decide (r2.2.f_at < (List.length a0 : Int))))) (by kernel_rfl) (fun hb => ?_) (fun hb => ?_)
  · replace h := if_t hb h
    refine Wp.seq ?_
    refine Wp.region hΓ [] [] [] [2, 3] [2] (K' := [(2, .own 2 0), (3, .val (.int .i64 3))]) (L' := [(2, 25, [.val (.int .i64 0), .str [], .val (.slice none 0 0), .val (.slice none 0 0)])]) (ob := []) (by kernel_rfl) AllP.nil ?_
    refine To.thenN ?_
    refine Wp.ret ?_
    refine To.blockR ?_
    refine To.thenR ?_
    refine To.keep (kk := [2, 3]) (kl := [2]) (K' := [(2, .own 2 0), (3, .val (.int .i64 3))]) (L' := [(2, 25, [.val (.int .i64 0), .str [], .val (.slice none 0 0), .val (.slice none 0 0)])]) (by kernel_rfl) (by kernel_rfl) ?_
    refine To.weak (K' := [(2, .own 2 0), (3, .val (.int .i64 3))]) (L' := [(2, 25, [.val (.int .i64 0), .str [], .recs (α := List UInt8) [] E_string [], .tree (α := S_api_Node) (S_api_Node.mk 0 [] [] []) pre_S_api_Node kids_S_api_Node []])]) (.cons (.refl _) (.cons (.refl _) .nil)) (.cons (.cons (.refl _) (.cons (.refl _) (.cons (.zero _ _) (.cons (.zeroT _ _ _) .nil)))) .nil) ?_
    cases h
    exact To.done hΓ (by kernel_rfl)
  · replace h := if_f hb h
    refine Wp.seq ?_
    obtain ⟨r3, hr3, h⟩ := bind_of h
    refine Wp.region hΓ [] [(1, .val (.bool r3))] [] [2, 5, 28] [2, 5] (K' := [(2, .own 2 0), (5, .own 5 0), (28, .val (.bool (!r3)))]) (L' := [(2, 25, [.val (.int .i64 0), .str [], .val (.slice none 0 0), .val (.slice none 0 0)]), (5, 25, [.val (.int .i64 r1.1.f_Kind), .str r1.1.f_Text, .recs (α := List UInt8) [] E_string r1.1.f_Keys, .tree (α := S_api_Node) (S_api_Node.mk 0 [] [] []) pre_S_api_Node kids_S_api_Node r1.1.f_Kids])]) (ob := [(true = true → CX Tryd.prog 19 [.agg [.val (.int .i64 r1.1.f_Kind), .str r1.1.f_Text, .recs (α := List UInt8) [] E_string r1.1.f_Keys, .tree (α := S_api_Node) (S_api_Node.mk 0 [] [] []) pre_S_api_Node kids_S_api_Node r1.1.f_Kids]] (.val (.bool r3)))]) (by kernel_rfl) (AllP.cons (fun _ => cx (ok_node_Right n r1.1 _ hr3)) AllP.nil) ?_
    refine To.thenN ?_
    refine Wp.cond (b := (!r3)) (by kernel_rfl) (fun hb => ?_) (fun hb => ?_)
    · replace h := if_t hb h
      refine Wp.seq ?_
      refine Wp.region hΓ [] [] [] [2, 3] [2] (K' := [(2, .own 2 0), (3, .val (.int .i64 9))]) (L' := [(2, 25, [.val (.int .i64 0), .str [], .val (.slice none 0 0), .val (.slice none 0 0)])]) (ob := []) (by kernel_rfl) AllP.nil ?_
      refine To.thenN ?_
      refine Wp.ret ?_
      refine To.blockR ?_
      refine To.thenR ?_
      refine To.keep (kk := [2, 3]) (kl := [2]) (K' := [(2, .own 2 0), (3, .val (.int .i64 9))]) (L' := [(2, 25, [.val (.int .i64 0), .str [], .val (.slice none 0 0), .val (.slice none 0 0)])]) (by kernel_rfl) (by kernel_rfl) ?_
      refine To.weak (K' := [(2, .own 2 0), (3, .val (.int .i64 9))]) (L' := [(2, 25, [.val (.int .i64 0), .str [], .recs (α := List UInt8) [] E_string [], .tree (α := S_api_Node) (S_api_Node.mk 0 [] [] []) pre_S_api_Node kids_S_api_Node []])]) (.cons (.refl _) (.cons (.refl _) .nil)) (.cons (.cons (.refl _) (.cons (.refl _) (.cons (.zero _ _) (.cons (.zeroT _ _ _) .nil)))) .nil) ?_
      cases h
      exact To.done hΓ (by kernel_rfl)
    · replace h := if_f hb h
      refine Wp.skip ?_
      refine To.blockN ?_
      refine To.thenN ?_
      refine Wp.seq ?_
      refine Wp.region hΓ [] [] [] [2, 3] [2] (K' := [(2, .own 2 0), (3, .val (.int .i64 0))]) (L' := [(2, 25, [.val (.int .i64 r1.1.f_Kind), .str r1.1.f_Text, .recs (α := List UInt8) [] E_string r1.1.f_Keys, .tree (α := S_api_Node) (S_api_Node.mk 0 [] [] []) pre_S_api_Node kids_S_api_Node r1.1.f_Kids])]) (ob := []) (by kernel_rfl) AllP.nil ?_
      refine To.thenN ?_
      refine Wp.ret ?_
      refine To.keep (kk := [2, 3]) (kl := [2]) (K' := [(2, .own 2 0), (3, .val (.int .i64 0))]) (L' := [(2, 25, [.val (.int .i64 r1.1.f_Kind), .str r1.1.f_Text, .recs (α := List UInt8) [] E_string r1.1.f_Keys, .tree (α := S_api_Node) (S_api_Node.mk 0 [] [] []) pre_S_api_Node kids_S_api_Node r1.1.f_Kids])]) (by kernel_rfl) (by kernel_rfl) ?_
      cases h
      exact To.done hΓ (by kernel_rfl)
def law09_awake (n : Nat) : Option (Bool) :=
  (flow_Parse n [91, 97, 44, 32, 123, 98, 58, 32, 39, 99, 39, 44, 32, 34, 100, 34, 58, 125, 93]).bind fun r1 =>
  (flow_Parse n [91, 97, 44, 32, 93]).bind fun r2 =>
  if ((!((bif (r1.2 == 0) then ((List.length r1.1.f_Kids : Int) == 2) else false) == true) || decide (0 ≤ (1 : Int) ∧ (1 : Int) < (List.length r1.1.f_Kids : Int)))) = true then (if ((!((bif (bif (r1.2 == 0) then ((List.length r1.1.f_Kids : Int) == 2) else false) then ((List.length (((r1.1.f_Kids)[Int.toNat 1]?.getD (S_api_Node.mk 0 [] [] [])).f_Keys) : Int) == 2) else false) == true) || decide (0 ≤ (1 : Int) ∧ (1 : Int) < (List.length r1.1.f_Kids : Int)))) = true then (if ((!((bif (bif (r1.2 == 0) then ((List.length r1.1.f_Kids : Int) == 2) else false) then ((List.length (((r1.1.f_Kids)[Int.toNat 1]?.getD (S_api_Node.mk 0 [] [] [])).f_Keys) : Int) == 2) else false) == true) || decide (0 ≤ (0 : Int) ∧ (0 : Int) < (List.length (((r1.1.f_Kids)[Int.toNat 1]?.getD (S_api_Node.mk 0 [] [] [])).f_Kids) : Int)))) = true then (if ((!((bif (bif (bif (r1.2 == 0) then ((List.length r1.1.f_Kids : Int) == 2) else false) then ((List.length (((r1.1.f_Kids)[Int.toNat 1]?.getD (S_api_Node.mk 0 [] [] [])).f_Keys) : Int) == 2) else false) then ((((((r1.1.f_Kids)[Int.toNat 1]?.getD (S_api_Node.mk 0 [] [] [])).f_Kids)[Int.toNat 0]?.getD (S_api_Node.mk 0 [] [] [])).f_Text) == [99]) else false) == true) || decide (0 ≤ (1 : Int) ∧ (1 : Int) < (List.length r1.1.f_Kids : Int)))) = true then (if ((!((bif (bif (bif (r1.2 == 0) then ((List.length r1.1.f_Kids : Int) == 2) else false) then ((List.length (((r1.1.f_Kids)[Int.toNat 1]?.getD (S_api_Node.mk 0 [] [] [])).f_Keys) : Int) == 2) else false) then ((((((r1.1.f_Kids)[Int.toNat 1]?.getD (S_api_Node.mk 0 [] [] [])).f_Kids)[Int.toNat 0]?.getD (S_api_Node.mk 0 [] [] [])).f_Text) == [99]) else false) == true) || decide (0 ≤ (1 : Int) ∧ (1 : Int) < (List.length (((r1.1.f_Kids)[Int.toNat 1]?.getD (S_api_Node.mk 0 [] [] [])).f_Kids) : Int)))) = true then (lett ((bif (bif (bif (bif (bif (r1.2 == 0) then ((List.length r1.1.f_Kids : Int) == 2) else false) then ((List.length (((r1.1.f_Kids)[Int.toNat 1]?.getD (S_api_Node.mk 0 [] [] [])).f_Keys) : Int) == 2) else false) then ((((((r1.1.f_Kids)[Int.toNat 1]?.getD (S_api_Node.mk 0 [] [] [])).f_Kids)[Int.toNat 0]?.getD (S_api_Node.mk 0 [] [] [])).f_Text) == [99]) else false) then ((((((r1.1.f_Kids)[Int.toNat 1]?.getD (S_api_Node.mk 0 [] [] [])).f_Kids)[Int.toNat 1]?.getD (S_api_Node.mk 0 [] [] [])).f_Kind) == 0) else false) then (r2.2 == 3) else false) : Bool) fun x3 =>
  some x3) else none) else none) else none) else none) else none
theorem ok_law09_awake (n : Nat) (r : Bool) (h : law09_awake n = some r) : CallsX Tryd.prog 6 [] (.val (.bool r)) := by
  unfold law09_awake at h
  refine callsX_of (fn := Tryd.f6) (by kernel_rfl) rfl (by kernel_rfl) (Nat.le_of_ble_eq_true (by kernel_rfl)) fun F0 w0 _ => ?_
  refine Wp.keep (kk := []) (kl := []) (K' := []) (L' := []) (by kernel_rfl) (by kernel_rfl) ?_
  refine Wp.seq ?_
  refine Wp.region hΓ [] [] [] [] [] (K' := []) (L' := []) (ob := []) (by kernel_rfl) AllP.nil ?_
  refine To.thenN ?_
  refine Wp.seq ?_
  obtain ⟨r1, hr1, h⟩ := bind_of h
  refine Wp.region hΓ [] [(0, .tup [.agg [.val (.int .i64 r1.1.f_Kind), .str r1.1.f_Text, .recs (α := List UInt8) [] E_string r1.1.f_Keys, .tree (α := S_api_Node) (S_api_Node.mk 0 [] [] []) pre_S_api_Node kids_S_api_Node r1.1.f_Kids], .val (.int .i64 r1.2)])] [] [1, 2] [1] (K' := [(1, .own 1 0), (2, .val (.int .i64 r1.2))]) (L' := [(1, 25, [.val (.int .i64 r1.1.f_Kind), .str r1.1.f_Text, .recs (α := List UInt8) [] E_string r1.1.f_Keys, .tree (α := S_api_Node) (S_api_Node.mk 0 [] [] []) pre_S_api_Node kids_S_api_Node r1.1.f_Kids])]) (ob := [(true = true → CX Tryd.prog 9 [.str [91, 97, 44, 32, 123, 98, 58, 32, 39, 99, 39, 44, 32, 34, 100, 34, 58, 125, 93]] (.tup [.agg [.val (.int .i64 r1.1.f_Kind), .str r1.1.f_Text, .recs (α := List UInt8) [] E_string r1.1.f_Keys, .tree (α := S_api_Node) (S_api_Node.mk 0 [] [] []) pre_S_api_Node kids_S_api_Node r1.1.f_Kids], .val (.int .i64 r1.2)]))]) (by kernel_rfl) (AllP.cons (fun _ => cx (ok_flow_Parse n [91, 97, 44, 32, 123, 98, 58, 32, 39, 99, 39, 44, 32, 34, 100, 34, 58, 125, 93] _ hr1)) AllP.nil) ?_
  refine To.thenN ?_
  refine Wp.seq ?_
  obtain ⟨r2, hr2, h⟩ := bind_of h
  refine Wp.region hΓ [] [(0, .tup [.agg [.val (.int .i64 r2.1.f_Kind), .str r2.1.f_Text, .recs (α := List UInt8) [] E_string r2.1.f_Keys, .tree (α := S_api_Node) (S_api_Node.mk 0 [] [] []) pre_S_api_Node kids_S_api_Node r2.1.f_Kids], .val (.int .i64 r2.2)])] [] [1, 2, 4] [1] (K' := [(1, .own 1 0), (2, .val (.int .i64 r1.2)), (4, .val (.int .i64 r2.2))]) (L' := [(1, 25, [.val (.int .i64 r1.1.f_Kind), .str r1.1.f_Text, .recs (α := List UInt8) [] E_string r1.1.f_Keys, .tree (α := S_api_Node) (S_api_Node.mk 0 [] [] []) pre_S_api_Node kids_S_api_Node r1.1.f_Kids])]) (ob := [(true = true → CX Tryd.prog 9 [.str [91, 97, 44, 32, 93]] (.tup [.agg [.val (.int .i64 r2.1.f_Kind), .str r2.1.f_Text, .recs (α := List UInt8) [] E_string r2.1.f_Keys, .tree (α := S_api_Node) (S_api_Node.mk 0 [] [] []) pre_S_api_Node kids_S_api_Node r2.1.f_Kids], .val (.int .i64 r2.2)]))]) (by kernel_rfl) (AllP.cons (fun _ => cx (ok_flow_Parse n [91, 97, 44, 32, 93] _ hr2)) AllP.nil) ?_
  refine To.thenN ?_
  refine Wp.seq ?_
  obtain ⟨hc4, h⟩ := chk_of h
  obtain ⟨hc5, h⟩ := chk_of h
  obtain ⟨hc6, h⟩ := chk_of h
  obtain ⟨hc7, h⟩ := chk_of h
  obtain ⟨hc8, h⟩ := chk_of h
  obtain ⟨x3, hx3, h⟩ := lett_of h
  refine Wp.region hΓ [] [] [] [0] [] (K' := [(0, .val (.bool (bif (bif (bif (bif (bif (r1.2 == 0) then ((List.length r1.1.f_Kids : Int) == 2) else false) then ((List.length (((r1.1.f_Kids)[Int.toNat 1]?.getD (S_api_Node.mk 0 [] [] [])).f_Keys) : Int) == 2) else false) then ((((((r1.1.f_Kids)[Int.toNat 1]?.getD (S_api_Node.mk 0 [] [] [])).f_Kids)[Int.toNat 0]?.getD (S_api_Node.mk 0 [] [] [])).f_Text) == [99]) else false) then ((((((r1.1.f_Kids)[Int.toNat 1]?.getD (S_api_Node.mk 0 [] [] [])).f_Kids)[Int.toNat 1]?.getD (S_api_Node.mk 0 [] [] [])).f_Kind) == 0) else false) then (r2.2 == 3) else false)))]) (L' := []) (ob := [(!((bif (r1.2 == 0) then ((List.length r1.1.f_Kids : Int) == 2) else false) == true) || decide (0 ≤ (1 : Int) ∧ (1 : Int) < (List.length r1.1.f_Kids : Int))) = true, (!((bif (bif (r1.2 == 0) then ((List.length r1.1.f_Kids : Int) == 2) else false) then ((List.length (((r1.1.f_Kids)[Int.toNat 1]?.getD (S_api_Node.mk 0 [] [] [])).f_Keys) : Int) == 2) else false) == true) || decide (0 ≤ (1 : Int) ∧ (1 : Int) < (List.length r1.1.f_Kids : Int))) = true, (!((bif (bif (r1.2 == 0) then ((List.length r1.1.f_Kids : Int) == 2) else false) then ((List.length (((r1.1.f_Kids)[Int.toNat 1]?.getD (S_api_Node.mk 0 [] [] [])).f_Keys) : Int) == 2) else false) == true) || decide (0 ≤ (0 : Int) ∧ (0 : Int) < (List.length (((r1.1.f_Kids)[Int.toNat 1]?.getD (S_api_Node.mk 0 [] [] [])).f_Kids) : Int))) = true, (!((bif (bif (bif (r1.2 == 0) then ((List.length r1.1.f_Kids : Int) == 2) else false) then ((List.length (((r1.1.f_Kids)[Int.toNat 1]?.getD (S_api_Node.mk 0 [] [] [])).f_Keys) : Int) == 2) else false) then ((((((r1.1.f_Kids)[Int.toNat 1]?.getD (S_api_Node.mk 0 [] [] [])).f_Kids)[Int.toNat 0]?.getD (S_api_Node.mk 0 [] [] [])).f_Text) == [99]) else false) == true) || decide (0 ≤ (1 : Int) ∧ (1 : Int) < (List.length r1.1.f_Kids : Int))) = true, (!((bif (bif (bif (r1.2 == 0) then ((List.length r1.1.f_Kids : Int) == 2) else false) then ((List.length (((r1.1.f_Kids)[Int.toNat 1]?.getD (S_api_Node.mk 0 [] [] [])).f_Keys) : Int) == 2) else false) then ((((((r1.1.f_Kids)[Int.toNat 1]?.getD (S_api_Node.mk 0 [] [] [])).f_Kids)[Int.toNat 0]?.getD (S_api_Node.mk 0 [] [] [])).f_Text) == [99]) else false) == true) || decide (0 ≤ (1 : Int) ∧ (1 : Int) < (List.length (((r1.1.f_Kids)[Int.toNat 1]?.getD (S_api_Node.mk 0 [] [] [])).f_Kids) : Int))) = true]) (by kernel_rfl) (AllP.cons hc4 (AllP.cons hc5 (AllP.cons hc6 (AllP.cons hc7 (AllP.cons hc8 AllP.nil))))) ?_
  refine To.eq (K' := [(0, .val (.bool x3))]) (L' := []) (by cases hx3; rfl) (by cases hx3; rfl) ?_
  refine To.thenN ?_
  refine Wp.ret ?_
  refine To.keep (kk := [0]) (kl := []) (K' := [(0, .val (.bool x3))]) (L' := []) (by kernel_rfl) (by kernel_rfl) ?_
  cases h
  exact To.done hΓ (by kernel_rfl)
def quote_Double_j2 (n : Nat) (v0 : List UInt8) (v3 : List (UInt8)) (v13 : Int) (v14 : Int) : Option ((List (UInt8))) :=
  if (decide (0 ≤ v14 ∧ v14 < (List.length v0 : Int))) = true then (lett ((bif ((((v0)[Int.toNat v14]?.getD 0).toNat : Int) == 34) then true else ((((v0)[Int.toNat v14]?.getD 0).toNat : Int) == 92)) : Bool) fun x1 =>
  if x1 = true then (if (decide ((List.length v3 + List.length ([92, ((v0)[Int.toNat v14]?.getD 0)] : List (UInt8))) * (1 + 1) ≤ limit)) = true then (some (v3 ++ ([92, ((v0)[Int.toNat v14]?.getD 0)] : List (UInt8)))) else none)
  else (if ((((v0)[Int.toNat v14]?.getD 0).toNat : Int) == 10) = true then (if (decide ((List.length v3 + List.length ([92, 110] : List (UInt8))) * (1 + 1) ≤ limit)) = true then (some (v3 ++ ([92, 110] : List (UInt8)))) else none)
  else (if ((((v0)[Int.toNat v14]?.getD 0).toNat : Int) == 9) = true then (if (decide ((List.length v3 + List.length ([92, 116] : List (UInt8))) * (1 + 1) ≤ limit)) = true then (some (v3 ++ ([92, 116] : List (UInt8)))) else none)
  else (if (!(quote_ok (((v0)[Int.toNat v14]?.getD 0).toNat : Int))) = true then (if (decide (0 ≤ (4 : Int))) = true then (if (decide (0 ≤ (Int.fdiv (((v0)[Int.toNat v14]?.getD 0).toNat : Int) (2 ^ (min (Int.toNat 4) (IntKind.bits .u8)))) ∧ (Int.fdiv (((v0)[Int.toNat v14]?.getD 0).toNat : Int) (2 ^ (min (Int.toNat 4) (IntKind.bits .u8)))) < (List.length ([48, 49, 50, 51, 52, 53, 54, 55, 56, 57, 97, 98, 99, 100, 101, 102] : List UInt8) : Int))) = true then (if (decide (0 ≤ (IntKind.wrap .u8 ((BitVec.ofInt (IntKind.bits .u8) (((v0)[Int.toNat v14]?.getD 0).toNat : Int) &&& BitVec.ofInt (IntKind.bits .u8) 15).toNat)) ∧ (IntKind.wrap .u8 ((BitVec.ofInt (IntKind.bits .u8) (((v0)[Int.toNat v14]?.getD 0).toNat : Int) &&& BitVec.ofInt (IntKind.bits .u8) 15).toNat)) < (List.length ([48, 49, 50, 51, 52, 53, 54, 55, 56, 57, 97, 98, 99, 100, 101, 102] : List UInt8) : Int))) = true then (if (decide ((List.length v3 + List.length ([92, 120, ((([48, 49, 50, 51, 52, 53, 54, 55, 56, 57, 97, 98, 99, 100, 101, 102] : List UInt8))[Int.toNat (Int.fdiv (((v0)[Int.toNat v14]?.getD 0).toNat : Int) (2 ^ (min (Int.toNat 4) (IntKind.bits .u8))))]?.getD 0), ((([48, 49, 50, 51, 52, 53, 54, 55, 56, 57, 97, 98, 99, 100, 101, 102] : List UInt8))[Int.toNat (IntKind.wrap .u8 ((BitVec.ofInt (IntKind.bits .u8) (((v0)[Int.toNat v14]?.getD 0).toNat : Int) &&& BitVec.ofInt (IntKind.bits .u8) 15).toNat))]?.getD 0)] : List (UInt8))) * (1 + 1) ≤ limit)) = true then (lett ((v3 ++ ([92, 120, ((([48, 49, 50, 51, 52, 53, 54, 55, 56, 57, 97, 98, 99, 100, 101, 102] : List UInt8))[Int.toNat (Int.fdiv (((v0)[Int.toNat v14]?.getD 0).toNat : Int) (2 ^ (min (Int.toNat 4) (IntKind.bits .u8))))]?.getD 0), ((([48, 49, 50, 51, 52, 53, 54, 55, 56, 57, 97, 98, 99, 100, 101, 102] : List UInt8))[Int.toNat (IntKind.wrap .u8 ((BitVec.ofInt (IntKind.bits .u8) (((v0)[Int.toNat v14]?.getD 0).toNat : Int) &&& BitVec.ofInt (IntKind.bits .u8) 15).toNat))]?.getD 0)] : List (UInt8))) : List (UInt8)) fun x5 =>
  some x5) else none) else none) else none) else none)
  else (if (decide ((List.length v3 + List.length ([((v0)[Int.toNat v14]?.getD 0)] : List (UInt8))) * (1 + 1) ≤ limit)) = true then (some (v3 ++ ([((v0)[Int.toNat v14]?.getD 0)] : List (UInt8)))) else none))))) else none
theorem ok_quote_Double_j2 (n : Nat) (v0 : List UInt8) (v3 : List (UInt8)) (v13 : Int) (v14 : Int) (o : (List (UInt8))) (h : quote_Double_j2 n v0 v3 v13 v14 = some o) {F0 : Fz} {w0 : Pt Tryd.prog} {Q : Exit → Act → World → Prop} (hQ : To 65 F0 w0 [(0, .str v0), (3, .row 1003), (13, .val (.int .i64 v13)), (14, .val (.int .i64 v14))] [(1003, 5, [.rowc false (α := UInt8) 0 e8 o])] .normal Q) : Wp Tryd.prog 65 F0 w0 [(0, .str v0), (3, .row 1003), (13, .val (.int .i64 v13)), (14, .val (.int .i64 v14))] [(1003, 5, [.rowc false (α := UInt8) 0 e8 v3])] (cA (cB (cB (cI (cI (cB (cA (cB (cB (cF Tryd.f24)))))))))) Q := by
  unfold quote_Double_j2 at h
  refine Wp.block ?_
  refine Wp.seq ?_
  refine Wp.region hΓ [] [] [] [0, 3, 4, 13, 14] [1003] (K' := [(0, .str v0), (3, .row 1003), (4, .val (.int .i64 v14)), (13, .val (.int .i64 v13)), (14, .val (.int .i64 v14))]) (L' := [(1003, 5, [.rowc false (α := UInt8) 0 e8 v3])]) (ob := []) (by kernel_rfl) AllP.nil ?_
  refine To.thenN ?_
  refine Wp.seq ?_
  obtain ⟨hc11, h⟩ := chk_of h
  refine Wp.region hΓ [] [] [] [0, 3, 5, 13, 14] [1003] (K' := [(0, .str v0), (3, .row 1003), (5, .val (.int .u8 (((v0)[Int.toNat v14]?.getD 0).toNat : Int))), (13, .val (.int .i64 v13)), (14, .val (.int .i64 v14))]) (L' := [(1003, 5, [.rowc false (α := UInt8) 0 e8 v3])]) (ob := [(decide (0 ≤ v14 ∧ v14 < (List.length v0 : Int))) = true]) (by kernel_rfl) (AllP.cons hc11 AllP.nil) ?_
  refine To.thenN ?_
  refine Wp.block ?_
  refine Wp.seq ?_
  obtain ⟨x1, hx1, h⟩ := lett_of h
  refine Wp.region hΓ [] [] [] [0, 3, 5, 13, 14, 24] [1003] (K' := [(0, .str v0), (3, .row 1003), (5, .val (.int .u8 (((v0)[Int.toNat v14]?.getD 0).toNat : Int))), (13, .val (.int .i64 v13)), (14, .val (.int .i64 v14)), (24, .val (.bool (bif ((((v0)[Int.toNat v14]?.getD 0).toNat : Int) == 34) then true else ((((v0)[Int.toNat v14]?.getD 0).toNat : Int) == 92))))]) (L' := [(1003, 5, [.rowc false (α := UInt8) 0 e8 v3])]) (ob := []) (by kernel_rfl) AllP.nil ?_
  refine To.eq (K' := [(0, .str v0), (3, .row 1003), (5, .val (.int .u8 (((v0)[Int.toNat v14]?.getD 0).toNat : Int))), (13, .val (.int .i64 v13)), (14, .val (.int .i64 v14)), (24, .val (.bool x1))]) (L' := [(1003, 5, [.rowc false (α := UInt8) 0 e8 v3])]) (by cases hx1; rfl) (by cases hx1; rfl) ?_
  refine To.thenN ?_
  refine Wp.cond (b := x1) (by kernel_rfl) (fun hb => ?_) (fun hb => ?_)
  · replace h := if_t hb h
    obtain ⟨hc2, h⟩ := chk_of h
    refine Wp.region hΓ [] [(2, .recs (α := UInt8) 0 e8 ([92, ((v0)[Int.toNat v14]?.getD 0)])), (3, .recs (α := UInt8) 0 e8 (v3 ++ ([92, ((v0)[Int.toNat v14]?.getD 0)] : List (UInt8))))] [] [0, 3, 13, 14] [34] (K' := [(0, .str v0), (3, .row 34), (13, .val (.int .i64 v13)), (14, .val (.int .i64 v14))]) (L' := [(34, 5, [.rowc false (α := UInt8) 0 e8 (v3 ++ ([92, ((v0)[Int.toNat v14]?.getD 0)] : List (UInt8)))])]) (ob := [(MkOb 1 [.val (.int .u8 92), .val (.int .u8 (((v0)[Int.toNat v14]?.getD 0).toNat : Int))] 2 (.recs (α := UInt8) 0 e8 ([92, ((v0)[Int.toNat v14]?.getD 0)])) ∧ GoodR (.recs (α := UInt8) 0 e8 ([92, ((v0)[Int.toNat v14]?.getD 0)]))), (decide ((List.length v3 + List.length ([92, ((v0)[Int.toNat v14]?.getD 0)] : List (UInt8))) * (1 + 1) ≤ limit)) = true, (AppOb 0 e8 v3 (List.flatMap e8 ([92, ((v0)[Int.toNat v14]?.getD 0)] : List (UInt8))) (List.length ([92, ((v0)[Int.toNat v14]?.getD 0)] : List (UInt8))) (.recs (α := UInt8) 0 e8 (v3 ++ ([92, ((v0)[Int.toNat v14]?.getD 0)] : List (UInt8)))) ∧ GoodR (.recs (α := UInt8) 0 e8 (v3 ++ ([92, ((v0)[Int.toNat v14]?.getD 0)] : List (UInt8)))))]) (by kernel_rfl) (AllP.cons (mkOb (All8.cells (ns := [92, (((v0)[Int.toNat v14]?.getD 0).toNat : Int)]) (.cons rfl (.cons rfl .nil))) rfl rfl (good8 _)) (AllP.cons hc2 (AllP.cons (appOb rfl rfl (good8 _)) AllP.nil))) ?_
    refine To.blockN ?_
    refine To.blockN ?_
    refine To.keep (kk := [0, 3, 13, 14]) (kl := [34]) (K' := [(0, .str v0), (3, .row 34), (13, .val (.int .i64 v13)), (14, .val (.int .i64 v14))]) (L' := [(34, 5, [.rowc false (α := UInt8) 0 e8 (v3 ++ ([92, ((v0)[Int.toNat v14]?.getD 0)] : List (UInt8)))])]) (by kernel_rfl) (by kernel_rfl) ?_
    refine To.pre (St.rename 34 1003 (by decide) (K' := [(0, .str v0), (3, .row 1003), (13, .val (.int .i64 v13)), (14, .val (.int .i64 v14))]) (L' := [(1003, 5, [.rowc false (α := UInt8) 0 e8 (v3 ++ ([92, ((v0)[Int.toNat v14]?.getD 0)] : List (UInt8)))])]) (by kernel_rfl) (by kernel_rfl) (by kernel_rfl)) ?_
    refine To.keep (kk := [0, 3, 13, 14]) (kl := [1003]) (K' := [(0, .str v0), (3, .row 1003), (13, .val (.int .i64 v13)), (14, .val (.int .i64 v14))]) (L' := [(1003, 5, [.rowc false (α := UInt8) 0 e8 (v3 ++ ([92, ((v0)[Int.toNat v14]?.getD 0)] : List (UInt8)))])]) (by kernel_rfl) (by kernel_rfl) ?_
    cases h
    exact hQ
  · replace h := if_f hb h
    refine Wp.seq ?_
    refine Wp.region hΓ [] [] [] [0, 3, 5, 13, 14, 35] [1003] (K' := [(0, .str v0), (3, .row 1003), (5, .val (.int .u8 (((v0)[Int.toNat v14]?.getD 0).toNat : Int))), (13, .val (.int .i64 v13)), (14, .val (.int .i64 v14)), (35, .val (.bool ((((v0)[Int.toNat v14]?.getD 0).toNat : Int) == 10)))]) (L' := [(1003, 5, [.rowc false (α := UInt8) 0 e8 v3])]) (ob := []) (by kernel_rfl) AllP.nil ?_
    refine To.thenN ?_
    refine Wp.cond (b := ((((v0)[Int.toNat v14]?.getD 0).toNat : Int) == 10)) (by kernel_rfl) (fun hb => ?_) (fun hb => ?_)
    · replace h := if_t hb h
      obtain ⟨hc3, h⟩ := chk_of h
      refine Wp.region hΓ [] [(1, .recs (α := UInt8) 0 e8 [92, 110]), (2, .recs (α := UInt8) 0 e8 (v3 ++ ([92, 110] : List (UInt8))))] [] [0, 3, 13, 14] [40] (K' := [(0, .str v0), (3, .row 40), (13, .val (.int .i64 v13)), (14, .val (.int .i64 v14))]) (L' := [(40, 5, [.rowc false (α := UInt8) 0 e8 (v3 ++ ([92, 110] : List (UInt8)))])]) (ob := [(MkOb 1 [.val (.int .u8 92), .val (.int .u8 110)] 2 (.recs (α := UInt8) 0 e8 [92, 110]) ∧ GoodR (.recs (α := UInt8) 0 e8 [92, 110])), (decide ((List.length v3 + List.length ([92, 110] : List (UInt8))) * (1 + 1) ≤ limit)) = true, (AppOb 0 e8 v3 (List.flatMap e8 ([92, 110] : List (UInt8))) (List.length ([92, 110] : List (UInt8))) (.recs (α := UInt8) 0 e8 (v3 ++ ([92, 110] : List (UInt8)))) ∧ GoodR (.recs (α := UInt8) 0 e8 (v3 ++ ([92, 110] : List (UInt8)))))]) (by kernel_rfl) (AllP.cons (mkOb (All8.cells (ns := [92, 110]) (.cons rfl (.cons rfl .nil))) rfl rfl (good8 _)) (AllP.cons hc3 (AllP.cons (appOb rfl rfl (good8 _)) AllP.nil))) ?_
      refine To.blockN ?_
      refine To.blockN ?_
      refine To.keep (kk := [0, 3, 13, 14]) (kl := [40]) (K' := [(0, .str v0), (3, .row 40), (13, .val (.int .i64 v13)), (14, .val (.int .i64 v14))]) (L' := [(40, 5, [.rowc false (α := UInt8) 0 e8 (v3 ++ ([92, 110] : List (UInt8)))])]) (by kernel_rfl) (by kernel_rfl) ?_
      refine To.pre (St.rename 40 1003 (by decide) (K' := [(0, .str v0), (3, .row 1003), (13, .val (.int .i64 v13)), (14, .val (.int .i64 v14))]) (L' := [(1003, 5, [.rowc false (α := UInt8) 0 e8 (v3 ++ ([92, 110] : List (UInt8)))])]) (by kernel_rfl) (by kernel_rfl) (by kernel_rfl)) ?_
      refine To.keep (kk := [0, 3, 13, 14]) (kl := [1003]) (K' := [(0, .str v0), (3, .row 1003), (13, .val (.int .i64 v13)), (14, .val (.int .i64 v14))]) (L' := [(1003, 5, [.rowc false (α := UInt8) 0 e8 (v3 ++ ([92, 110] : List (UInt8)))])]) (by kernel_rfl) (by kernel_rfl) ?_
      cases h
      exact hQ
    · replace h := if_f hb h
      refine Wp.seq ?_
      refine Wp.region hΓ [] [] [] [0, 3, 5, 13, 14, 41] [1003] (K' := [(0, .str v0), (3, .row 1003), (5, .val (.int .u8 (((v0)[Int.toNat v14]?.getD 0).toNat : Int))), (13, .val (.int .i64 v13)), (14, .val (.int .i64 v14)), (41, .val (.bool ((((v0)[Int.toNat v14]?.getD 0).toNat : Int) == 9)))]) (L' := [(1003, 5, [.rowc false (α := UInt8) 0 e8 v3])]) (ob := []) (by kernel_rfl) AllP.nil ?_
      refine To.thenN ?_
      refine Wp.cond (b := ((((v0)[Int.toNat v14]?.getD 0).toNat : Int) == 9)) (by kernel_rfl) (fun hb => ?_) (fun hb => ?_)
      · replace h := if_t hb h
        obtain ⟨hc4, h⟩ := chk_of h
        refine Wp.region hΓ [] [(1, .recs (α := UInt8) 0 e8 [92, 116]), (2, .recs (α := UInt8) 0 e8 (v3 ++ ([92, 116] : List (UInt8))))] [] [0, 3, 13, 14] [46] (K' := [(0, .str v0), (3, .row 46), (13, .val (.int .i64 v13)), (14, .val (.int .i64 v14))]) (L' := [(46, 5, [.rowc false (α := UInt8) 0 e8 (v3 ++ ([92, 116] : List (UInt8)))])]) (ob := [(MkOb 1 [.val (.int .u8 92), .val (.int .u8 116)] 2 (.recs (α := UInt8) 0 e8 [92, 116]) ∧ GoodR (.recs (α := UInt8) 0 e8 [92, 116])), (decide ((List.length v3 + List.length ([92, 116] : List (UInt8))) * (1 + 1) ≤ limit)) = true, (AppOb 0 e8 v3 (List.flatMap e8 ([92, 116] : List (UInt8))) (List.length ([92, 116] : List (UInt8))) (.recs (α := UInt8) 0 e8 (v3 ++ ([92, 116] : List (UInt8)))) ∧ GoodR (.recs (α := UInt8) 0 e8 (v3 ++ ([92, 116] : List (UInt8)))))]) (by kernel_rfl) (AllP.cons (mkOb (All8.cells (ns := [92, 116]) (.cons rfl (.cons rfl .nil))) rfl rfl (good8 _)) (AllP.cons hc4 (AllP.cons (appOb rfl rfl (good8 _)) AllP.nil))) ?_
        refine To.blockN ?_
        refine To.blockN ?_
        refine To.keep (kk := [0, 3, 13, 14]) (kl := [46]) (K' := [(0, .str v0), (3, .row 46), (13, .val (.int .i64 v13)), (14, .val (.int .i64 v14))]) (L' := [(46, 5, [.rowc false (α := UInt8) 0 e8 (v3 ++ ([92, 116] : List (UInt8)))])]) (by kernel_rfl) (by kernel_rfl) ?_
        refine To.pre (St.rename 46 1003 (by decide) (K' := [(0, .str v0), (3, .row 1003), (13, .val (.int .i64 v13)), (14, .val (.int .i64 v14))]) (L' := [(1003, 5, [.rowc false (α := UInt8) 0 e8 (v3 ++ ([92, 116] : List (UInt8)))])]) (by kernel_rfl) (by kernel_rfl) (by kernel_rfl)) ?_
        refine To.keep (kk := [0, 3, 13, 14]) (kl := [1003]) (K' := [(0, .str v0), (3, .row 1003), (13, .val (.int .i64 v13)), (14, .val (.int .i64 v14))]) (L' := [(1003, 5, [.rowc false (α := UInt8) 0 e8 (v3 ++ ([92, 116] : List (UInt8)))])]) (by kernel_rfl) (by kernel_rfl) ?_
        cases h
        exact hQ
      · replace h := if_f hb h
        refine Wp.seq ?_
        refine Wp.region hΓ [] [(1, .val (.bool (quote_ok (((v0)[Int.toNat v14]?.getD 0).toNat : Int))))] [] [0, 3, 5, 13, 14, 47] [1003] (K' := [(0, .str v0), (3, .row 1003), (5, .val (.int .u8 (((v0)[Int.toNat v14]?.getD 0).toNat : Int))), (13, .val (.int .i64 v13)), (14, .val (.int .i64 v14)), (47, .val (.bool (!(quote_ok (((v0)[Int.toNat v14]?.getD 0).toNat : Int)))))]) (L' := [(1003, 5, [.rowc false (α := UInt8) 0 e8 v3])]) (ob := [(true = true → CX Tryd.prog 39 [.val (.int .u8 (((v0)[Int.toNat v14]?.getD 0).toNat : Int))] (.val (.bool (quote_ok (((v0)[Int.toNat v14]?.getD 0).toNat : Int)))))]) (by kernel_rfl) (AllP.cons (fun _ => cx (ok_quote_ok (((v0)[Int.toNat v14]?.getD 0).toNat : Int) _ rfl)) AllP.nil) ?_
        refine To.thenN ?_
        refine Wp.cond (b := (!(quote_ok (((v0)[Int.toNat v14]?.getD 0).toNat : Int)))) (by kernel_rfl) (fun hb => ?_) (fun hb => ?_)
        · replace h := if_t hb h
          obtain ⟨hc6, h⟩ := chk_of h
          obtain ⟨hc7, h⟩ := chk_of h
          obtain ⟨hc8, h⟩ := chk_of h
          obtain ⟨hc9, h⟩ := chk_of h
          obtain ⟨x5, hx5, h⟩ := lett_of h
          refine Wp.regionD hm hΓ [(7, .recs (α := UInt8) 0 e8 ([92, 120, ((([48, 49, 50, 51, 52, 53, 54, 55, 56, 57, 97, 98, 99, 100, 101, 102] : List UInt8))[Int.toNat (Int.fdiv (((v0)[Int.toNat v14]?.getD 0).toNat : Int) (2 ^ (min (Int.toNat 4) (IntKind.bits .u8))))]?.getD 0), ((([48, 49, 50, 51, 52, 53, 54, 55, 56, 57, 97, 98, 99, 100, 101, 102] : List UInt8))[Int.toNat (IntKind.wrap .u8 ((BitVec.ofInt (IntKind.bits .u8) (((v0)[Int.toNat v14]?.getD 0).toNat : Int) &&& BitVec.ofInt (IntKind.bits .u8) 15).toNat))]?.getD 0)])), (8, .row 59), (1008, .recs (α := UInt8) 0 e8 (v3 ++ ([92, 120, ((([48, 49, 50, 51, 52, 53, 54, 55, 56, 57, 97, 98, 99, 100, 101, 102] : List UInt8))[Int.toNat (Int.fdiv (((v0)[Int.toNat v14]?.getD 0).toNat : Int) (2 ^ (min (Int.toNat 4) (IntKind.bits .u8))))]?.getD 0), ((([48, 49, 50, 51, 52, 53, 54, 55, 56, 57, 97, 98, 99, 100, 101, 102] : List UInt8))[Int.toNat (IntKind.wrap .u8 ((BitVec.ofInt (IntKind.bits .u8) (((v0)[Int.toNat v14]?.getD 0).toNat : Int) &&& BitVec.ofInt (IntKind.bits .u8) 15).toNat))]?.getD 0)] : List (UInt8))))] [0, 3, 13, 14] [59] (K' := [(0, .str v0), (3, .row 59), (13, .val (.int .i64 v13)), (14, .val (.int .i64 v14))]) (L' := [(59, 5, [.rowc false (α := UInt8) 0 e8 (v3 ++ ([92, 120, ((([48, 49, 50, 51, 52, 53, 54, 55, 56, 57, 97, 98, 99, 100, 101, 102] : List UInt8))[Int.toNat (Int.fdiv (((v0)[Int.toNat v14]?.getD 0).toNat : Int) (2 ^ (min (Int.toNat 4) (IntKind.bits .u8))))]?.getD 0), ((([48, 49, 50, 51, 52, 53, 54, 55, 56, 57, 97, 98, 99, 100, 101, 102] : List UInt8))[Int.toNat (IntKind.wrap .u8 ((BitVec.ofInt (IntKind.bits .u8) (((v0)[Int.toNat v14]?.getD 0).toNat : Int) &&& BitVec.ofInt (IntKind.bits .u8) 15).toNat))]?.getD 0)] : List (UInt8)))])]) (ob := [(decide (0 ≤ (4 : Int))) = true, (decide (0 ≤ (Int.fdiv (((v0)[Int.toNat v14]?.getD 0).toNat : Int) (2 ^ (min (Int.toNat 4) (IntKind.bits .u8)))) ∧ (Int.fdiv (((v0)[Int.toNat v14]?.getD 0).toNat : Int) (2 ^ (min (Int.toNat 4) (IntKind.bits .u8)))) < (List.length ([48, 49, 50, 51, 52, 53, 54, 55, 56, 57, 97, 98, 99, 100, 101, 102] : List UInt8) : Int))) = true, (decide (0 ≤ (IntKind.wrap .u8 ((BitVec.ofInt (IntKind.bits .u8) (((v0)[Int.toNat v14]?.getD 0).toNat : Int) &&& BitVec.ofInt (IntKind.bits .u8) 15).toNat)) ∧ (IntKind.wrap .u8 ((BitVec.ofInt (IntKind.bits .u8) (((v0)[Int.toNat v14]?.getD 0).toNat : Int) &&& BitVec.ofInt (IntKind.bits .u8) 15).toNat)) < (List.length ([48, 49, 50, 51, 52, 53, 54, 55, 56, 57, 97, 98, 99, 100, 101, 102] : List UInt8) : Int))) = true, (true = true → MkOb 1 [.val (.int .u8 92), .val (.int .u8 120), .val (.int .u8 (((([48, 49, 50, 51, 52, 53, 54, 55, 56, 57, 97, 98, 99, 100, 101, 102] : List UInt8))[Int.toNat (Int.fdiv (((v0)[Int.toNat v14]?.getD 0).toNat : Int) (2 ^ (min (Int.toNat 4) (IntKind.bits .u8))))]?.getD 0).toNat : Int)), .val (.int .u8 (((([48, 49, 50, 51, 52, 53, 54, 55, 56, 57, 97, 98, 99, 100, 101, 102] : List UInt8))[Int.toNat (IntKind.wrap .u8 ((BitVec.ofInt (IntKind.bits .u8) (((v0)[Int.toNat v14]?.getD 0).toNat : Int) &&& BitVec.ofInt (IntKind.bits .u8) 15).toNat))]?.getD 0).toNat : Int))] 4 (.recs (α := UInt8) 0 e8 ([92, 120, ((([48, 49, 50, 51, 52, 53, 54, 55, 56, 57, 97, 98, 99, 100, 101, 102] : List UInt8))[Int.toNat (Int.fdiv (((v0)[Int.toNat v14]?.getD 0).toNat : Int) (2 ^ (min (Int.toNat 4) (IntKind.bits .u8))))]?.getD 0), ((([48, 49, 50, 51, 52, 53, 54, 55, 56, 57, 97, 98, 99, 100, 101, 102] : List UInt8))[Int.toNat (IntKind.wrap .u8 ((BitVec.ofInt (IntKind.bits .u8) (((v0)[Int.toNat v14]?.getD 0).toNat : Int) &&& BitVec.ofInt (IntKind.bits .u8) 15).toNat))]?.getD 0)])) ∧ GoodR (.recs (α := UInt8) 0 e8 ([92, 120, ((([48, 49, 50, 51, 52, 53, 54, 55, 56, 57, 97, 98, 99, 100, 101, 102] : List UInt8))[Int.toNat (Int.fdiv (((v0)[Int.toNat v14]?.getD 0).toNat : Int) (2 ^ (min (Int.toNat 4) (IntKind.bits .u8))))]?.getD 0), ((([48, 49, 50, 51, 52, 53, 54, 55, 56, 57, 97, 98, 99, 100, 101, 102] : List UInt8))[Int.toNat (IntKind.wrap .u8 ((BitVec.ofInt (IntKind.bits .u8) (((v0)[Int.toNat v14]?.getD 0).toNat : Int) &&& BitVec.ofInt (IntKind.bits .u8) 15).toNat))]?.getD 0)]))), (decide ((List.length v3 + List.length ([92, 120, ((([48, 49, 50, 51, 52, 53, 54, 55, 56, 57, 97, 98, 99, 100, 101, 102] : List UInt8))[Int.toNat (Int.fdiv (((v0)[Int.toNat v14]?.getD 0).toNat : Int) (2 ^ (min (Int.toNat 4) (IntKind.bits .u8))))]?.getD 0), ((([48, 49, 50, 51, 52, 53, 54, 55, 56, 57, 97, 98, 99, 100, 101, 102] : List UInt8))[Int.toNat (IntKind.wrap .u8 ((BitVec.ofInt (IntKind.bits .u8) (((v0)[Int.toNat v14]?.getD 0).toNat : Int) &&& BitVec.ofInt (IntKind.bits .u8) 15).toNat))]?.getD 0)] : List (UInt8))) * (1 + 1) ≤ limit)) = true, (AppOb 0 e8 v3 (List.flatMap e8 ([92, 120, ((([48, 49, 50, 51, 52, 53, 54, 55, 56, 57, 97, 98, 99, 100, 101, 102] : List UInt8))[Int.toNat (Int.fdiv (((v0)[Int.toNat v14]?.getD 0).toNat : Int) (2 ^ (min (Int.toNat 4) (IntKind.bits .u8))))]?.getD 0), ((([48, 49, 50, 51, 52, 53, 54, 55, 56, 57, 97, 98, 99, 100, 101, 102] : List UInt8))[Int.toNat (IntKind.wrap .u8 ((BitVec.ofInt (IntKind.bits .u8) (((v0)[Int.toNat v14]?.getD 0).toNat : Int) &&& BitVec.ofInt (IntKind.bits .u8) 15).toNat))]?.getD 0)] : List (UInt8))) (List.length ([92, 120, ((([48, 49, 50, 51, 52, 53, 54, 55, 56, 57, 97, 98, 99, 100, 101, 102] : List UInt8))[Int.toNat (Int.fdiv (((v0)[Int.toNat v14]?.getD 0).toNat : Int) (2 ^ (min (Int.toNat 4) (IntKind.bits .u8))))]?.getD 0), ((([48, 49, 50, 51, 52, 53, 54, 55, 56, 57, 97, 98, 99, 100, 101, 102] : List UInt8))[Int.toNat (IntKind.wrap .u8 ((BitVec.ofInt (IntKind.bits .u8) (((v0)[Int.toNat v14]?.getD 0).toNat : Int) &&& BitVec.ofInt (IntKind.bits .u8) 15).toNat))]?.getD 0)] : List (UInt8))) (.recs (α := UInt8) 0 e8 (v3 ++ ([92, 120, ((([48, 49, 50, 51, 52, 53, 54, 55, 56, 57, 97, 98, 99, 100, 101, 102] : List UInt8))[Int.toNat (Int.fdiv (((v0)[Int.toNat v14]?.getD 0).toNat : Int) (2 ^ (min (Int.toNat 4) (IntKind.bits .u8))))]?.getD 0), ((([48, 49, 50, 51, 52, 53, 54, 55, 56, 57, 97, 98, 99, 100, 101, 102] : List UInt8))[Int.toNat (IntKind.wrap .u8 ((BitVec.ofInt (IntKind.bits .u8) (((v0)[Int.toNat v14]?.getD 0).toNat : Int) &&& BitVec.ofInt (IntKind.bits .u8) 15).toNat))]?.getD 0)] : List (UInt8)))) ∧ GoodR (.recs (α := UInt8) 0 e8 (v3 ++ ([92, 120, ((([48, 49, 50, 51, 52, 53, 54, 55, 56, 57, 97, 98, 99, 100, 101, 102] : List UInt8))[Int.toNat (Int.fdiv (((v0)[Int.toNat v14]?.getD 0).toNat : Int) (2 ^ (min (Int.toNat 4) (IntKind.bits .u8))))]?.getD 0), ((([48, 49, 50, 51, 52, 53, 54, 55, 56, 57, 97, 98, 99, 100, 101, 102] : List UInt8))[Int.toNat (IntKind.wrap .u8 ((BitVec.ofInt (IntKind.bits .u8) (((v0)[Int.toNat v14]?.getD 0).toNat : Int) &&& BitVec.ofInt (IntKind.bits .u8) 15).toNat))]?.getD 0)] : List (UInt8)))))]) (by kernel_rfl) (AllP.cons hc6 (AllP.cons hc7 (AllP.cons hc8 (AllP.cons (fun _ => mkOb (All8.cells (ns := [92, 120, (((([48, 49, 50, 51, 52, 53, 54, 55, 56, 57, 97, 98, 99, 100, 101, 102] : List UInt8))[Int.toNat (Int.fdiv (((v0)[Int.toNat v14]?.getD 0).toNat : Int) (2 ^ (min (Int.toNat 4) (IntKind.bits .u8))))]?.getD 0).toNat : Int), (((([48, 49, 50, 51, 52, 53, 54, 55, 56, 57, 97, 98, 99, 100, 101, 102] : List UInt8))[Int.toNat (IntKind.wrap .u8 ((BitVec.ofInt (IntKind.bits .u8) (((v0)[Int.toNat v14]?.getD 0).toNat : Int) &&& BitVec.ofInt (IntKind.bits .u8) 15).toNat))]?.getD 0).toNat : Int)]) (.cons rfl (.cons rfl (.cons rfl (.cons rfl .nil))))) rfl rfl (good8 _)) (AllP.cons hc9 (AllP.cons (appOb rfl rfl (good8 _)) AllP.nil)))))) ?_
          refine To.eq (K' := [(0, .str v0), (3, .row 59), (13, .val (.int .i64 v13)), (14, .val (.int .i64 v14))]) (L' := [(59, 5, [.rowc false (α := UInt8) 0 e8 x5])]) (by cases hx5; rfl) (by cases hx5; rfl) ?_
          refine To.blockN ?_
          refine To.blockN ?_
          refine To.keep (kk := [0, 3, 13, 14]) (kl := [59]) (K' := [(0, .str v0), (3, .row 59), (13, .val (.int .i64 v13)), (14, .val (.int .i64 v14))]) (L' := [(59, 5, [.rowc false (α := UInt8) 0 e8 x5])]) (by kernel_rfl) (by kernel_rfl) ?_
          refine To.pre (St.rename 59 1003 (by decide) (K' := [(0, .str v0), (3, .row 1003), (13, .val (.int .i64 v13)), (14, .val (.int .i64 v14))]) (L' := [(1003, 5, [.rowc false (α := UInt8) 0 e8 x5])]) (by kernel_rfl) (by kernel_rfl) (by kernel_rfl)) ?_
          refine To.keep (kk := [0, 3, 13, 14]) (kl := [1003]) (K' := [(0, .str v0), (3, .row 1003), (13, .val (.int .i64 v13)), (14, .val (.int .i64 v14))]) (L' := [(1003, 5, [.rowc false (α := UInt8) 0 e8 x5])]) (by kernel_rfl) (by kernel_rfl) ?_
          cases h
          exact hQ
        · replace h := if_f hb h
          obtain ⟨hc10, h⟩ := chk_of h
          refine Wp.region hΓ [] [(2, .recs (α := UInt8) 0 e8 ([((v0)[Int.toNat v14]?.getD 0)])), (3, .recs (α := UInt8) 0 e8 (v3 ++ ([((v0)[Int.toNat v14]?.getD 0)] : List (UInt8))))] [] [0, 3, 13, 14] [23] (K' := [(0, .str v0), (3, .row 23), (13, .val (.int .i64 v13)), (14, .val (.int .i64 v14))]) (L' := [(23, 5, [.rowc false (α := UInt8) 0 e8 (v3 ++ ([((v0)[Int.toNat v14]?.getD 0)] : List (UInt8)))])]) (ob := [(MkOb 1 [.val (.int .u8 (((v0)[Int.toNat v14]?.getD 0).toNat : Int))] 1 (.recs (α := UInt8) 0 e8 ([((v0)[Int.toNat v14]?.getD 0)])) ∧ GoodR (.recs (α := UInt8) 0 e8 ([((v0)[Int.toNat v14]?.getD 0)]))), (decide ((List.length v3 + List.length ([((v0)[Int.toNat v14]?.getD 0)] : List (UInt8))) * (1 + 1) ≤ limit)) = true, (AppOb 0 e8 v3 (List.flatMap e8 ([((v0)[Int.toNat v14]?.getD 0)] : List (UInt8))) (List.length ([((v0)[Int.toNat v14]?.getD 0)] : List (UInt8))) (.recs (α := UInt8) 0 e8 (v3 ++ ([((v0)[Int.toNat v14]?.getD 0)] : List (UInt8)))) ∧ GoodR (.recs (α := UInt8) 0 e8 (v3 ++ ([((v0)[Int.toNat v14]?.getD 0)] : List (UInt8)))))]) (by kernel_rfl) (AllP.cons (mkOb (All8.cells (ns := [(((v0)[Int.toNat v14]?.getD 0).toNat : Int)]) (.cons rfl .nil)) rfl rfl (good8 _)) (AllP.cons hc10 (AllP.cons (appOb rfl rfl (good8 _)) AllP.nil))) ?_
          refine To.blockN ?_
          refine To.blockN ?_
          refine To.keep (kk := [0, 3, 13, 14]) (kl := [23]) (K' := [(0, .str v0), (3, .row 23), (13, .val (.int .i64 v13)), (14, .val (.int .i64 v14))]) (L' := [(23, 5, [.rowc false (α := UInt8) 0 e8 (v3 ++ ([((v0)[Int.toNat v14]?.getD 0)] : List (UInt8)))])]) (by kernel_rfl) (by kernel_rfl) ?_
          refine To.pre (St.rename 23 1003 (by decide) (K' := [(0, .str v0), (3, .row 1003), (13, .val (.int .i64 v13)), (14, .val (.int .i64 v14))]) (L' := [(1003, 5, [.rowc false (α := UInt8) 0 e8 (v3 ++ ([((v0)[Int.toNat v14]?.getD 0)] : List (UInt8)))])]) (by kernel_rfl) (by kernel_rfl) (by kernel_rfl)) ?_
          refine To.keep (kk := [0, 3, 13, 14]) (kl := [1003]) (K' := [(0, .str v0), (3, .row 1003), (13, .val (.int .i64 v13)), (14, .val (.int .i64 v14))]) (L' := [(1003, 5, [.rowc false (α := UInt8) 0 e8 (v3 ++ ([((v0)[Int.toNat v14]?.getD 0)] : List (UInt8)))])]) (by kernel_rfl) (by kernel_rfl) ?_
          cases h
          exact hQ
def quote_Double_l1 (n : Nat) (v0 : List UInt8) (v13 : Int) : Nat → (List (UInt8)) → Int → Option ((List (UInt8)))
  | 0, _, _ => none
  | k + 1, v3, v14 => if (decide (v14 < v13)) = true then ((quote_Double_j2 n v0 v3 v13 v14).bind fun o1 =>
  quote_Double_l1 n v0 v13 k o1 (IntKind.wrap .i64 (v14 + 1)))
  else some v3
theorem ok_quote_Double_l1 (n : Nat) (v0 : List UInt8) (v13 : Int) {F0 : Fz} {w0 : Pt Tryd.prog} {Q : Exit → Act → World → Prop} (k : Nat) : ∀ (v3 : List (UInt8)) (v14 : Int) (o : (List (UInt8))), quote_Double_l1 n v0 v13 k v3 v14 = some o → To 65 F0 w0 [(3, .row 1003)] [(1003, 5, [.rowc false (α := UInt8) 0 e8 o])] (.exit 0) Q → WL Tryd.prog 65 F0 w0 [(0, .str v0), (3, .row 1003), (13, .val (.int .i64 v13)), (14, .val (.int .i64 v14))] [(1003, 5, [.rowc false (α := UInt8) 0 e8 v3])] (cI (cI (cB (cA (cB (cB (cF Tryd.f24))))))) Q := by
  induction k with
  | zero => intro v3 v14 o h; cases h
  | succ k ih =>
    intro v3 v14 o h hQ
    rw [quote_Double_l1] at h
    refine WL.round ?_
    refine Wp.seq ?_
    refine Wp.region hΓ [] [] [] [0, 3, 13, 14, 15] [1003] (K' := [(0, .str v0), (3, .row 1003), (13, .val (.int .i64 v13)), (14, .val (.int .i64 v14)), (15, .val (.bool (decide (v14 < v13))))]) (L' := [(1003, 5, [.rowc false (α := UInt8) 0 e8 v3])]) (ob := []) (by kernel_rfl) AllP.nil ?_
    refine To.thenN ?_
    refine Wp.seq ?_
    refine Wp.cond (b := (decide (v14 < v13))) (by kernel_rfl) (fun hb => ?_) (fun hb => ?_)
    · replace h := if_t hb h
      refine Wp.skip ?_
      refine To.thenN ?_
      refine Wp.seq ?_
      obtain ⟨o1, ho1, h⟩ := bind_of h
      refine Wp.keep (kk := [0, 3, 13, 14]) (kl := [1003]) (K' := [(0, .str v0), (3, .row 1003), (13, .val (.int .i64 v13)), (14, .val (.int .i64 v14))]) (L' := [(1003, 5, [.rowc false (α := UInt8) 0 e8 v3])]) (by kernel_rfl) (by kernel_rfl) ?_
      refine ok_quote_Double_j2 n v0 v3 v13 v14 o1 ho1 ?_
      refine To.thenN ?_
      refine Wp.region hΓ [] [] [] [0, 3, 13, 14] [1003] (K' := [(0, .str v0), (3, .row 1003), (13, .val (.int .i64 v13)), (14, .val (.int .i64 (IntKind.wrap .i64 (v14 + 1))))]) (L' := [(1003, 5, [.rowc false (α := UInt8) 0 e8 o1])]) (ob := []) (by kernel_rfl) AllP.nil ?_
      refine To.keep (kk := [0, 3, 13, 14]) (kl := [1003]) (K' := [(0, .str v0), (3, .row 1003), (13, .val (.int .i64 v13)), (14, .val (.int .i64 (IntKind.wrap .i64 (v14 + 1))))]) (L' := [(1003, 5, [.rowc false (α := UInt8) 0 e8 o1])]) (by kernel_rfl) (by kernel_rfl) ?_
      refine To.again ?_
      exact ih o1 (IntKind.wrap .i64 (v14 + 1)) _ h hQ
    · replace h := if_f hb h
      refine Wp.exit ?_
      refine To.thenX ?_
      refine To.thenX ?_
      refine To.keep (kk := [3]) (kl := [1003]) (K' := [(3, .row 1003)]) (L' := [(1003, 5, [.rowc false (α := UInt8) 0 e8 v3])]) (by kernel_rfl) (by kernel_rfl) ?_
      cases h
      exact hQ
end Go.Proofs.YtjicbelggepaiaaDoor.M
