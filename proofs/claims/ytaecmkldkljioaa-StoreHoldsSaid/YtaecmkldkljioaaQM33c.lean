/-
  Part of the proof of StoreHolds: M33c.
-/
import Derived.Test.YtaecmkldkljioaaQM33b
set_option linter.all false
namespace Go.Proofs.Ytaecmkldkljioaa.M
open Go.RowKit Go.Proofs.Ytaecmkldkljioaa.RX
set_option maxRecDepth 100000
theorem ok_store_shelf_list__m0 (n : Nat) (h0 : List (MK × S_api_Kept)) (r : (List (S_api_Kept)) × (List (MK × S_api_Kept))) (h : store_shelf_list__m0 n h0 = some r) : CallsB Try.prog 58 [.mp 1000000] [(1000000, 98, [.mapc none true (α := S_api_Kept) (S_api_Kept.mk [] []) E_api_Kept h0])] (.recs (α := S_api_Kept) (S_api_Kept.mk [] []) E_api_Kept r.1) [(1000000, 98, [.mapc none true (α := S_api_Kept) (S_api_Kept.mk [] []) E_api_Kept r.2])] := by
  unfold store_shelf_list__m0 at h
  refine callsB_of (fn := Try.f58) (by kernel_rfl) rfl (by kernel_rfl) (Nat.le_of_ble_eq_true (by kernel_rfl)) fun F0 w0 => ?_
  refine Wp.keep (kk := [0]) (kl := [1000000]) (K' := [(0, .mp 1000000)]) (L' := [(1000000, 98, [.mapc none true (α := S_api_Kept) (S_api_Kept.mk [] []) E_api_Kept h0])]) (by kernel_rfl) (by kernel_rfl) ?_
  refine Wp.seq ?_
  refine Wp.region hΓ [] [] [] [0] [1000000] (K' := [(0, .mp 1000000)]) (L' := [(1000000, 98, [.mapc none true (α := S_api_Kept) (S_api_Kept.mk [] []) E_api_Kept h0])]) (ob := []) (by kernel_rfl) AllP.nil ?_
  refine To.thenN ?_
  refine Wp.seq ?_
  refine Wp.region hΓ [] [] [] [0, 3] [1000000] (K' := [(0, .mp 1000000), (3, .val (.slice none 0 0))]) (L' := [(1000000, 98, [.mapc none true (α := S_api_Kept) (S_api_Kept.mk [] []) E_api_Kept h0])]) (ob := []) (by kernel_rfl) AllP.nil ?_
  refine To.thenN ?_
  refine Wp.seq ?_
  refine Wp.seq ?_
  obtain ⟨u1, h⟩ := chk_of h
  refine Wp.region hΓ [] [] [(1, ⟨[(1000000, 1000000)], [(1, 7), (1000000, 1000000)], [.mp 1000000], [(1000000, 98, [.mapc none true (α := S_api_Kept) (S_api_Kept.mk [] []) E_api_Kept h0])], .fn 97 [.own 1 0], [(1000000, 98, [.mapc none true (α := S_api_Kept) (S_api_Kept.mk [] []) E_api_Kept h0]), (1, 98, [.mp 1000000])]⟩), (2, ⟨[(1000000, 1000000), (1000001, 7)], [(1000000, 1000000), (1000001, 7)], [.fn 97 [.own 1000001 0]], [(1000000, 98, [.mapc none true (α := S_api_Kept) (S_api_Kept.mk [] []) E_api_Kept h0]), (1000001, 98, [.mp 1000000])], .recs (α := List UInt8) [] E_string (keysS h0), [(1000000, 98, [.mapc none true (α := S_api_Kept) (S_api_Kept.mk [] []) E_api_Kept h0]), (1000001, 98, [.mp 1000000])]⟩)] [0, 3, 8, 9, 10] [1000000] (K' := [(0, .mp 1000000), (3, .val (.slice none 0 0)), (8, .recs (α := List UInt8) [] E_string (keysS h0)), (9, .val (.int .i64 (List.length (keysS h0) : Int))), (10, .val (.int .i64 0))]) (L' := [(1000000, 98, [.mapc none true (α := S_api_Kept) (S_api_Kept.mk [] []) E_api_Kept h0])]) (ob := [CbOb (CallsB Try.prog) 82 [.mp 1000000] [some (98, [.mapc none true (α := S_api_Kept) (S_api_Kept.mk [] []) E_api_Kept h0])] ⟨[(1000000, 1000000)], [(1, 7), (1000000, 1000000)], [.mp 1000000], [(1000000, 98, [.mapc none true (α := S_api_Kept) (S_api_Kept.mk [] []) E_api_Kept h0])], .fn 97 [.own 1 0], [(1000000, 98, [.mapc none true (α := S_api_Kept) (S_api_Kept.mk [] []) E_api_Kept h0]), (1, 98, [.mp 1000000])]⟩, CbOb (CallsB Try.prog) 81 [.fn 97 [.own 7 0]] [some (98, [.mapc none true (α := S_api_Kept) (S_api_Kept.mk [] []) E_api_Kept h0]), some (98, [.mp 1000000])] ⟨[(1000000, 1000000), (1000001, 7)], [(1000000, 1000000), (1000001, 7)], [.fn 97 [.own 1000001 0]], [(1000000, 98, [.mapc none true (α := S_api_Kept) (S_api_Kept.mk [] []) E_api_Kept h0]), (1000001, 98, [.mp 1000000])], .recs (α := List UInt8) [] E_string (keysS h0), [(1000000, 98, [.mapc none true (α := S_api_Kept) (S_api_Kept.mk [] []) E_api_Kept h0]), (1000001, 98, [.mp 1000000])]⟩]) (by kernel_rfl) (AllP.cons (⟨Sh.keys82, by kernel_rfl, by kernel_rfl⟩) (AllP.cons (⟨Sh.sortedKeys81_97 u1, by kernel_rfl, by kernel_rfl⟩) AllP.nil)) ?_
  refine To.thenN ?_
  refine Wp.block ?_
  obtain ⟨o2, ho2, h⟩ := bind_of h
  refine Wp.keep (kk := [0, 3, 8, 9, 10]) (kl := [1000000]) (K' := [(0, .mp 1000000), (3, .val (.slice none 0 0)), (8, .recs (α := List UInt8) [] E_string (keysS h0)), (9, .val (.int .i64 (List.length (keysS h0) : Int))), (10, .val (.int .i64 0))]) (L' := [(1000000, 98, [.mapc none true (α := S_api_Kept) (S_api_Kept.mk [] []) E_api_Kept h0])]) (by kernel_rfl) (by kernel_rfl) ?_
  refine Wp.pre (St.vacant (t := 3) (k := 1003) (e := 78) (K' := [(0, .mp 1000000), (3, .row 1003), (8, .recs (α := List UInt8) [] E_string (keysS h0)), (9, .val (.int .i64 (List.length (keysS h0) : Int))), (10, .val (.int .i64 0))]) (good_E_api_Kept _) (by decide) (by kernel_rfl) (by kernel_rfl)) ?_
  refine Wp.keep (kk := [0, 3, 8, 9, 10]) (kl := [1003, 1000000]) (K' := [(0, .mp 1000000), (3, .row 1003), (8, .recs (α := List UInt8) [] E_string (keysS h0)), (9, .val (.int .i64 (List.length (keysS h0) : Int))), (10, .val (.int .i64 0))]) (L' := [(1003, 78, [.rowc false (α := S_api_Kept) (S_api_Kept.mk [] []) E_api_Kept []]), (1000000, 98, [.mapc none true (α := S_api_Kept) (S_api_Kept.mk [] []) E_api_Kept h0])]) (by kernel_rfl) (by kernel_rfl) ?_
  refine Wp.loopL ?_
  refine ok_store_shelf_list__m0_l1 n (keysS h0) (List.length (keysS h0) : Int) h0 n ([] : List (S_api_Kept)) 0 o2 ho2 ?_
  refine To.blockX ?_
  refine To.thenN ?_
  refine Wp.seq ?_
  refine Wp.region hΓ [] [] [] [2] [1003, 1000000] (K' := [(2, .row 1003)]) (L' := [(1003, 78, [.rowc false (α := S_api_Kept) (S_api_Kept.mk [] []) E_api_Kept o2]), (1000000, 98, [.mapc none true (α := S_api_Kept) (S_api_Kept.mk [] []) E_api_Kept h0])]) (ob := []) (by kernel_rfl) AllP.nil ?_
  refine To.thenN ?_
  refine Wp.ret ?_
  refine To.keep (kk := [2]) (kl := [1003, 1000000]) (K' := [(2, .row 1003)]) (L' := [(1003, 78, [.rowc false (α := S_api_Kept) (S_api_Kept.mk [] []) E_api_Kept o2]), (1000000, 98, [.mapc none true (α := S_api_Kept) (S_api_Kept.mk [] []) E_api_Kept h0])]) (by kernel_rfl) (by kernel_rfl) ?_
  refine To.pre (St.settle (ks := [1003]) (kk := [2]) (kl := [1003, 1000000]) (K' := [(2, .row 1003)]) (L' := [(1003, 78, [.rowc true (α := S_api_Kept) (S_api_Kept.mk [] []) E_api_Kept o2]), (1000000, 98, [.mapc none true (α := S_api_Kept) (S_api_Kept.mk [] []) E_api_Kept h0])]) (by kernel_rfl)) ?_
  refine To.pre (St.sealK [2] (K' := [(2, .recs (α := S_api_Kept) (S_api_Kept.mk [] []) E_api_Kept o2)]) (by kernel_rfl)) ?_
  refine To.keep (kk := [2]) (kl := [1000000]) (K' := [(2, .recs (α := S_api_Kept) (S_api_Kept.mk [] []) E_api_Kept o2)]) (L' := [(1000000, 98, [.mapc none true (α := S_api_Kept) (S_api_Kept.mk [] []) E_api_Kept h0])]) (by kernel_rfl) (by kernel_rfl) ?_
  cases h
  exact To.doneB hΓ [1000000] (by kernel_rfl) (by kernel_rfl)
def store_Store_Nets__o0 (n : Nat) (h0 : S_store_Store) : Option ((List (S_api_Kept)) × S_store_Store) :=
  (store_shelf_list__m0 n h0.f_nets).bind fun r1 =>
  some (r1.1, (S_store_Store.mk h0.f_boxes r1.2 h0.f_vols h0.f_last))
theorem ok_store_Store_Nets__o0 (n : Nat) (h0 : S_store_Store) (r : (List (S_api_Kept)) × S_store_Store) (h : store_Store_Nets__o0 n h0 = some r) : CallsB Try.prog 32 [.own 1000000 0] [(1000000, 100, [.mp 1010060, .mp 1010061, .mp 1010062, .val (.int .i64 h0.f_last)]), (1010060, 96, [.mapc (some .i64) true (α := S_life_Box) Z_life_Box E_life_Box h0.f_boxes]), (1010061, 98, [.mapc none true (α := S_api_Kept) (S_api_Kept.mk [] []) E_api_Kept h0.f_nets]), (1010062, 98, [.mapc none true (α := S_api_Kept) (S_api_Kept.mk [] []) E_api_Kept h0.f_vols])] (.recs (α := S_api_Kept) (S_api_Kept.mk [] []) E_api_Kept r.1) [(1000000, 100, [.mp 1010060, .mp 1010061, .mp 1010062, .val (.int .i64 r.2.f_last)]), (1010060, 96, [.mapc (some .i64) true (α := S_life_Box) Z_life_Box E_life_Box r.2.f_boxes]), (1010061, 98, [.mapc none true (α := S_api_Kept) (S_api_Kept.mk [] []) E_api_Kept r.2.f_nets]), (1010062, 98, [.mapc none true (α := S_api_Kept) (S_api_Kept.mk [] []) E_api_Kept r.2.f_vols])] := by
  unfold store_Store_Nets__o0 at h
  refine callsB_of (fn := Try.f32) (by kernel_rfl) rfl (by kernel_rfl) (Nat.le_of_ble_eq_true (by kernel_rfl)) fun F0 w0 => ?_
  refine Wp.keep (kk := [0]) (kl := [1000000, 1010060, 1010061, 1010062]) (K' := [(0, .own 1000000 0)]) (L' := [(1000000, 100, [.mp 1010060, .mp 1010061, .mp 1010062, .val (.int .i64 h0.f_last)]), (1010060, 96, [.mapc (some .i64) true (α := S_life_Box) Z_life_Box E_life_Box h0.f_boxes]), (1010061, 98, [.mapc none true (α := S_api_Kept) (S_api_Kept.mk [] []) E_api_Kept h0.f_nets]), (1010062, 98, [.mapc none true (α := S_api_Kept) (S_api_Kept.mk [] []) E_api_Kept h0.f_vols])]) (by kernel_rfl) (by kernel_rfl) ?_
  refine Wp.seq ?_
  refine Wp.region hΓ [] [] [] [0] [1000000, 1010060, 1010061, 1010062] (K' := [(0, .own 1000000 0)]) (L' := [(1000000, 100, [.mp 1010060, .mp 1010061, .mp 1010062, .val (.int .i64 h0.f_last)]), (1010060, 96, [.mapc (some .i64) true (α := S_life_Box) Z_life_Box E_life_Box h0.f_boxes]), (1010061, 98, [.mapc none true (α := S_api_Kept) (S_api_Kept.mk [] []) E_api_Kept h0.f_nets]), (1010062, 98, [.mapc none true (α := S_api_Kept) (S_api_Kept.mk [] []) E_api_Kept h0.f_vols])]) (ob := []) (by kernel_rfl) AllP.nil ?_
  refine To.thenN ?_
  refine Wp.seq ?_
  refine Wp.seq ?_
  refine Wp.region hΓ [] [] [] [0, 4] [1000000, 1010060, 1010061, 1010062] (K' := [(0, .own 1000000 0), (4, .val (.bool false))]) (L' := [(1000000, 100, [.mp 1010060, .mp 1010061, .mp 1010062, .val (.int .i64 h0.f_last)]), (1010060, 96, [.mapc (some .i64) true (α := S_life_Box) Z_life_Box E_life_Box h0.f_boxes]), (1010061, 98, [.mapc none true (α := S_api_Kept) (S_api_Kept.mk [] []) E_api_Kept h0.f_nets]), (1010062, 98, [.mapc none true (α := S_api_Kept) (S_api_Kept.mk [] []) E_api_Kept h0.f_vols])]) (ob := []) (by kernel_rfl) AllP.nil ?_
  refine To.thenN ?_
  refine Wp.cond (b := false) (by kernel_rfl) (fun hb => by cases hb) (fun _ => ?_)
  refine Wp.skip ?_
  refine To.thenN ?_
  refine Wp.seq ?_
  obtain ⟨r1, hr1, h⟩ := bind_of h
  refine Wp.region hΓ [] [] [(4, ⟨[(1000000, 1010061)], [(1000000, 1010061)], [.mp 1000000], [(1000000, 98, [.mapc none true (α := S_api_Kept) (S_api_Kept.mk [] []) E_api_Kept h0.f_nets])], .recs (α := S_api_Kept) (S_api_Kept.mk [] []) E_api_Kept r1.1, [(1000000, 98, [.mapc none true (α := S_api_Kept) (S_api_Kept.mk [] []) E_api_Kept r1.2])]⟩)] [2] [1000000, 1010060, 1010061, 1010062] (K' := [(2, .recs (α := S_api_Kept) (S_api_Kept.mk [] []) E_api_Kept r1.1)]) (L' := [(1000000, 100, [.mp 1010060, .mp 1010061, .mp 1010062, .val (.int .i64 h0.f_last)]), (1010060, 96, [.mapc (some .i64) true (α := S_life_Box) Z_life_Box E_life_Box h0.f_boxes]), (1010061, 98, [.mapc none true (α := S_api_Kept) (S_api_Kept.mk [] []) E_api_Kept r1.2]), (1010062, 98, [.mapc none true (α := S_api_Kept) (S_api_Kept.mk [] []) E_api_Kept h0.f_vols])]) (ob := [CbOb (CallsB Try.prog) 58 [.mp 1010061] [some (98, [.mapc none true (α := S_api_Kept) (S_api_Kept.mk [] []) E_api_Kept h0.f_nets])] ⟨[(1000000, 1010061)], [(1000000, 1010061)], [.mp 1000000], [(1000000, 98, [.mapc none true (α := S_api_Kept) (S_api_Kept.mk [] []) E_api_Kept h0.f_nets])], .recs (α := S_api_Kept) (S_api_Kept.mk [] []) E_api_Kept r1.1, [(1000000, 98, [.mapc none true (α := S_api_Kept) (S_api_Kept.mk [] []) E_api_Kept r1.2])]⟩]) (by kernel_rfl) (AllP.cons (⟨(ok_store_shelf_list__m0 n h0.f_nets _ hr1), by kernel_rfl, by kernel_rfl⟩) AllP.nil) ?_
  refine To.thenN ?_
  refine Wp.ret ?_
  refine To.keep (kk := [2]) (kl := [1000000, 1010060, 1010061, 1010062]) (K' := [(2, .recs (α := S_api_Kept) (S_api_Kept.mk [] []) E_api_Kept r1.1)]) (L' := [(1000000, 100, [.mp 1010060, .mp 1010061, .mp 1010062, .val (.int .i64 h0.f_last)]), (1010060, 96, [.mapc (some .i64) true (α := S_life_Box) Z_life_Box E_life_Box h0.f_boxes]), (1010061, 98, [.mapc none true (α := S_api_Kept) (S_api_Kept.mk [] []) E_api_Kept r1.2]), (1010062, 98, [.mapc none true (α := S_api_Kept) (S_api_Kept.mk [] []) E_api_Kept h0.f_vols])]) (by kernel_rfl) (by kernel_rfl) ?_
  cases h
  exact To.doneB hΓ [1000000, 1010060, 1010061, 1010062] (by kernel_rfl) (by kernel_rfl)
def store_Store_Vols__o0 (n : Nat) (h0 : S_store_Store) : Option ((List (S_api_Kept)) × S_store_Store) :=
  (store_shelf_list__m0 n h0.f_vols).bind fun r1 =>
  some (r1.1, (S_store_Store.mk h0.f_boxes h0.f_nets r1.2 h0.f_last))
theorem ok_store_Store_Vols__o0 (n : Nat) (h0 : S_store_Store) (r : (List (S_api_Kept)) × S_store_Store) (h : store_Store_Vols__o0 n h0 = some r) : CallsB Try.prog 33 [.own 1000000 0] [(1000000, 100, [.mp 1010060, .mp 1010061, .mp 1010062, .val (.int .i64 h0.f_last)]), (1010060, 96, [.mapc (some .i64) true (α := S_life_Box) Z_life_Box E_life_Box h0.f_boxes]), (1010061, 98, [.mapc none true (α := S_api_Kept) (S_api_Kept.mk [] []) E_api_Kept h0.f_nets]), (1010062, 98, [.mapc none true (α := S_api_Kept) (S_api_Kept.mk [] []) E_api_Kept h0.f_vols])] (.recs (α := S_api_Kept) (S_api_Kept.mk [] []) E_api_Kept r.1) [(1000000, 100, [.mp 1010060, .mp 1010061, .mp 1010062, .val (.int .i64 r.2.f_last)]), (1010060, 96, [.mapc (some .i64) true (α := S_life_Box) Z_life_Box E_life_Box r.2.f_boxes]), (1010061, 98, [.mapc none true (α := S_api_Kept) (S_api_Kept.mk [] []) E_api_Kept r.2.f_nets]), (1010062, 98, [.mapc none true (α := S_api_Kept) (S_api_Kept.mk [] []) E_api_Kept r.2.f_vols])] := by
  unfold store_Store_Vols__o0 at h
  refine callsB_of (fn := Try.f33) (by kernel_rfl) rfl (by kernel_rfl) (Nat.le_of_ble_eq_true (by kernel_rfl)) fun F0 w0 => ?_
  refine Wp.keep (kk := [0]) (kl := [1000000, 1010060, 1010061, 1010062]) (K' := [(0, .own 1000000 0)]) (L' := [(1000000, 100, [.mp 1010060, .mp 1010061, .mp 1010062, .val (.int .i64 h0.f_last)]), (1010060, 96, [.mapc (some .i64) true (α := S_life_Box) Z_life_Box E_life_Box h0.f_boxes]), (1010061, 98, [.mapc none true (α := S_api_Kept) (S_api_Kept.mk [] []) E_api_Kept h0.f_nets]), (1010062, 98, [.mapc none true (α := S_api_Kept) (S_api_Kept.mk [] []) E_api_Kept h0.f_vols])]) (by kernel_rfl) (by kernel_rfl) ?_
  refine Wp.seq ?_
  refine Wp.region hΓ [] [] [] [0] [1000000, 1010060, 1010061, 1010062] (K' := [(0, .own 1000000 0)]) (L' := [(1000000, 100, [.mp 1010060, .mp 1010061, .mp 1010062, .val (.int .i64 h0.f_last)]), (1010060, 96, [.mapc (some .i64) true (α := S_life_Box) Z_life_Box E_life_Box h0.f_boxes]), (1010061, 98, [.mapc none true (α := S_api_Kept) (S_api_Kept.mk [] []) E_api_Kept h0.f_nets]), (1010062, 98, [.mapc none true (α := S_api_Kept) (S_api_Kept.mk [] []) E_api_Kept h0.f_vols])]) (ob := []) (by kernel_rfl) AllP.nil ?_
  refine To.thenN ?_
  refine Wp.seq ?_
  refine Wp.seq ?_
  refine Wp.region hΓ [] [] [] [0, 4] [1000000, 1010060, 1010061, 1010062] (K' := [(0, .own 1000000 0), (4, .val (.bool false))]) (L' := [(1000000, 100, [.mp 1010060, .mp 1010061, .mp 1010062, .val (.int .i64 h0.f_last)]), (1010060, 96, [.mapc (some .i64) true (α := S_life_Box) Z_life_Box E_life_Box h0.f_boxes]), (1010061, 98, [.mapc none true (α := S_api_Kept) (S_api_Kept.mk [] []) E_api_Kept h0.f_nets]), (1010062, 98, [.mapc none true (α := S_api_Kept) (S_api_Kept.mk [] []) E_api_Kept h0.f_vols])]) (ob := []) (by kernel_rfl) AllP.nil ?_
  refine To.thenN ?_
  refine Wp.cond (b := false) (by kernel_rfl) (fun hb => by cases hb) (fun _ => ?_)
  refine Wp.skip ?_
  refine To.thenN ?_
  refine Wp.seq ?_
  obtain ⟨r1, hr1, h⟩ := bind_of h
  refine Wp.region hΓ [] [] [(4, ⟨[(1000000, 1010062)], [(1000000, 1010062)], [.mp 1000000], [(1000000, 98, [.mapc none true (α := S_api_Kept) (S_api_Kept.mk [] []) E_api_Kept h0.f_vols])], .recs (α := S_api_Kept) (S_api_Kept.mk [] []) E_api_Kept r1.1, [(1000000, 98, [.mapc none true (α := S_api_Kept) (S_api_Kept.mk [] []) E_api_Kept r1.2])]⟩)] [2] [1000000, 1010060, 1010061, 1010062] (K' := [(2, .recs (α := S_api_Kept) (S_api_Kept.mk [] []) E_api_Kept r1.1)]) (L' := [(1000000, 100, [.mp 1010060, .mp 1010061, .mp 1010062, .val (.int .i64 h0.f_last)]), (1010060, 96, [.mapc (some .i64) true (α := S_life_Box) Z_life_Box E_life_Box h0.f_boxes]), (1010061, 98, [.mapc none true (α := S_api_Kept) (S_api_Kept.mk [] []) E_api_Kept h0.f_nets]), (1010062, 98, [.mapc none true (α := S_api_Kept) (S_api_Kept.mk [] []) E_api_Kept r1.2])]) (ob := [CbOb (CallsB Try.prog) 58 [.mp 1010062] [some (98, [.mapc none true (α := S_api_Kept) (S_api_Kept.mk [] []) E_api_Kept h0.f_vols])] ⟨[(1000000, 1010062)], [(1000000, 1010062)], [.mp 1000000], [(1000000, 98, [.mapc none true (α := S_api_Kept) (S_api_Kept.mk [] []) E_api_Kept h0.f_vols])], .recs (α := S_api_Kept) (S_api_Kept.mk [] []) E_api_Kept r1.1, [(1000000, 98, [.mapc none true (α := S_api_Kept) (S_api_Kept.mk [] []) E_api_Kept r1.2])]⟩]) (by kernel_rfl) (AllP.cons (⟨(ok_store_shelf_list__m0 n h0.f_vols _ hr1), by kernel_rfl, by kernel_rfl⟩) AllP.nil) ?_
  refine To.thenN ?_
  refine Wp.ret ?_
  refine To.keep (kk := [2]) (kl := [1000000, 1010060, 1010061, 1010062]) (K' := [(2, .recs (α := S_api_Kept) (S_api_Kept.mk [] []) E_api_Kept r1.1)]) (L' := [(1000000, 100, [.mp 1010060, .mp 1010061, .mp 1010062, .val (.int .i64 h0.f_last)]), (1010060, 96, [.mapc (some .i64) true (α := S_life_Box) Z_life_Box E_life_Box h0.f_boxes]), (1010061, 98, [.mapc none true (α := S_api_Kept) (S_api_Kept.mk [] []) E_api_Kept h0.f_nets]), (1010062, 98, [.mapc none true (α := S_api_Kept) (S_api_Kept.mk [] []) E_api_Kept r1.2])]) (by kernel_rfl) (by kernel_rfl) ?_
  cases h
  exact To.doneB hΓ [1000000, 1010060, 1010061, 1010062] (by kernel_rfl) (by kernel_rfl)
def ref02_Same_l1 (n : Nat) (v0 : List (List UInt8)) (v1 : List (List UInt8)) : Nat → Int → Option (Sum (Unit) (Bool))
  | 0, _ => none
  | k + 1, v5 => if (decide (v5 < (List.length v0 : Int))) = true then (if (decide (0 ≤ v5 ∧ v5 < (List.length v0 : Int))) = true then (if (decide (0 ≤ v5 ∧ v5 < (List.length v1 : Int))) = true then (if (!(((v0)[Int.toNat v5]?.getD []) == ((v1)[Int.toNat v5]?.getD []))) = true then (some (.inr false))
  else (ref02_Same_l1 n v0 v1 k (IntKind.wrap .i64 (v5 + 1)))) else none) else none)
  else (some (.inl ()))
theorem ok_ref02_Same_l1 (n : Nat) (v0 : List (List UInt8)) (v1 : List (List UInt8)) {F0 : Fz} {w0 : Pt Try.prog} {Q : Exit → Act → World → Prop} (k : Nat) : ∀ (v5 : Int) (o : Sum (Unit) (Bool)), ref02_Same_l1 n v0 v1 k v5 = some o → (Sum.elim (fun s => To 26 F0 w0 [] [] (.exit 0) Q) (fun s => To 26 F0 w0 [(4, .val (.bool s))] [] .ret Q)) o → WL Try.prog 26 F0 w0 [(0, .recs (α := List UInt8) [] E_string v0), (1, .recs (α := List UInt8) [] E_string v1), (5, .val (.int .i64 v5))] [] (cI (cI (cB (cA (cB (cB (cF Try.f18))))))) Q := by
  induction k with
  | zero => intro v5 o h; cases h
  | succ k ih =>
    intro v5 o h hQ
    rw [ref02_Same_l1] at h
    refine WL.round ?_
    refine Wp.seq ?_
    refine Wp.seq ?_
    refine Wp.region hΓ [] [] [] [0, 1, 5, 14] [] (K' := [(0, .recs (α := List UInt8) [] E_string v0), (1, .recs (α := List UInt8) [] E_string v1), (5, .val (.int .i64 v5)), (14, .val (.bool (decide (v5 < (List.length v0 : Int)))))]) (L' := []) (ob := []) (by kernel_rfl) AllP.nil ?_
    refine To.thenN ?_
    refine Wp.cond (b := (decide (v5 < (List.length v0 : Int)))) (by kernel_rfl) (fun hb => ?_) (fun hb => ?_)
    · replace h := if_t hb h
      refine Wp.skip ?_
      refine To.thenN ?_
      refine Wp.seq ?_
      refine Wp.block ?_
      refine Wp.seq ?_
      obtain ⟨hc1, h⟩ := chk_of h
      obtain ⟨hc2, h⟩ := chk_of h
      refine Wp.regionD hm hΓ [] [0, 1, 5, 25] [] (K' := [(0, .recs (α := List UInt8) [] E_string v0), (1, .recs (α := List UInt8) [] E_string v1), (5, .val (.int .i64 v5)), (25, .val (.bool (!(((v0)[Int.toNat v5]?.getD []) == ((v1)[Int.toNat v5]?.getD [])))))]) (L' := []) (ob := [(decide (0 ≤ v5 ∧ v5 < (List.length v0 : Int))) = true, (decide (0 ≤ v5 ∧ v5 < (List.length v1 : Int))) = true]) (by kernel_rfl) (AllP.cons hc1 (AllP.cons hc2 AllP.nil)) ?_
      refine To.thenN ?_
      refine Wp.cond (b := (!(((v0)[Int.toNat v5]?.getD []) == ((v1)[Int.toNat v5]?.getD [])))) (by kernel_rfl) (fun hb => ?_) (fun hb => ?_)
      · replace h := if_t hb h
        refine Wp.seq ?_
        refine Wp.region hΓ [] [] [] [4] [] (K' := [(4, .val (.bool false))]) (L' := []) (ob := []) (by kernel_rfl) AllP.nil ?_
        refine To.thenN ?_
        refine Wp.ret ?_
        refine To.blockR ?_
        refine To.thenR ?_
        refine To.thenR ?_
        refine To.keep (kk := [4]) (kl := []) (K' := [(4, .val (.bool false))]) (L' := []) (by kernel_rfl) (by kernel_rfl) ?_
        cases h
        exact hQ
      · replace h := if_f hb h
        refine Wp.skip ?_
        refine To.blockN ?_
        refine To.thenN ?_
        refine Wp.region hΓ [] [] [] [0, 1, 5] [] (K' := [(0, .recs (α := List UInt8) [] E_string v0), (1, .recs (α := List UInt8) [] E_string v1), (5, .val (.int .i64 (IntKind.wrap .i64 (v5 + 1))))]) (L' := []) (ob := []) (by kernel_rfl) AllP.nil ?_
        refine To.keep (kk := [0, 1, 5]) (kl := []) (K' := [(0, .recs (α := List UInt8) [] E_string v0), (1, .recs (α := List UInt8) [] E_string v1), (5, .val (.int .i64 (IntKind.wrap .i64 (v5 + 1))))]) (L' := []) (by kernel_rfl) (by kernel_rfl) ?_
        refine To.again ?_
        exact ih (IntKind.wrap .i64 (v5 + 1)) _ h hQ
    · replace h := if_f hb h
      refine Wp.exit ?_
      refine To.thenX ?_
      refine To.thenX ?_
      refine To.keep (kk := []) (kl := []) (K' := []) (L' := []) (by kernel_rfl) (by kernel_rfl) ?_
      cases h
      exact hQ
def ref02_Same (n : Nat) (a0 : List (List UInt8)) (a1 : List (List UInt8)) : Option (Bool) :=
  if ((List.length a0 : Int) != (List.length a1 : Int)) = true then some false
  else ((ref02_Same_l1 n a0 a1 n 0).bind fun o1 =>
  (Sum.elim (fun o1 => some true) (fun o1 => some o1)) o1)
theorem ok_ref02_Same (n : Nat) (a0 : List (List UInt8)) (a1 : List (List UInt8)) (r : Bool) (h : ref02_Same n a0 a1 = some r) : CallsX Try.prog 18 [.recs (α := List UInt8) [] E_string a0, .recs (α := List UInt8) [] E_string a1] (.val (.bool r)) := by
  unfold ref02_Same at h
  refine callsX_of (fn := Try.f18) (by kernel_rfl) rfl (by kernel_rfl) (Nat.le_of_ble_eq_true (by kernel_rfl)) fun F0 w0 _ => ?_
  refine Wp.keep (kk := [0, 1]) (kl := []) (K' := [(0, .recs (α := List UInt8) [] E_string a0), (1, .recs (α := List UInt8) [] E_string a1)]) (L' := []) (by kernel_rfl) (by kernel_rfl) ?_
  refine Wp.seq ?_
  refine Wp.region hΓ [] [] [] [0, 1] [] (K' := [(0, .recs (α := List UInt8) [] E_string a0), (1, .recs (α := List UInt8) [] E_string a1)]) (L' := []) (ob := []) (by kernel_rfl) AllP.nil ?_
  refine To.thenN ?_
  refine Wp.seq ?_
  refine Wp.seq ?_
  refine Wp.region hΓ [] [] [] [0, 1, 10] [] (K' := [(0, .recs (α := List UInt8) [] E_string a0), (1, .recs (α := List UInt8) [] E_string a1), (10, .val (.bool ((List.length a0 : Int) != (List.length a1 : Int))))]) (L' := []) (ob := []) (by kernel_rfl) AllP.nil ?_
  refine To.thenN ?_
  refine Wp.cond (b := ((List.length a0 : Int) != (List.length a1 : Int))) (by kernel_rfl) (fun hb => ?_) (fun hb => ?_)
  · replace h := if_t hb h
    refine Wp.seq ?_
    refine Wp.region hΓ [] [] [] [4] [] (K' := [(4, .val (.bool false))]) (L' := []) (ob := []) (by kernel_rfl) AllP.nil ?_
    refine To.thenN ?_
    refine Wp.ret ?_
    refine To.thenR ?_
    refine To.keep (kk := [4]) (kl := []) (K' := [(4, .val (.bool false))]) (L' := []) (by kernel_rfl) (by kernel_rfl) ?_
    cases h
    exact To.done hΓ (by kernel_rfl)
  · replace h := if_f hb h
    refine Wp.skip ?_
    refine To.thenN ?_
    refine Wp.seq ?_
    refine Wp.seq ?_
    refine Wp.region hΓ [] [] [] [0, 1, 5] [] (K' := [(0, .recs (α := List UInt8) [] E_string a0), (1, .recs (α := List UInt8) [] E_string a1), (5, .val (.int .i64 0))]) (L' := []) (ob := []) (by kernel_rfl) AllP.nil ?_
    refine To.thenN ?_
    refine Wp.block ?_
    obtain ⟨o1, ho1, h⟩ := bind_of h
    refine Wp.keep (kk := [0, 1, 5]) (kl := []) (K' := [(0, .recs (α := List UInt8) [] E_string a0), (1, .recs (α := List UInt8) [] E_string a1), (5, .val (.int .i64 0))]) (L' := []) (by kernel_rfl) (by kernel_rfl) ?_
    refine Wp.loopL ?_
    refine ok_ref02_Same_l1 n a0 a1 n 0 o1 ho1 ?_
    rcases o1 with o1 | o1
    · replace h := sum_l h
      refine To.blockX ?_
      refine To.thenN ?_
      refine Wp.seq ?_
      refine Wp.region hΓ [] [] [] [4] [] (K' := [(4, .val (.bool true))]) (L' := []) (ob := []) (by kernel_rfl) AllP.nil ?_
      refine To.thenN ?_
      refine Wp.ret ?_
      refine To.keep (kk := [4]) (kl := []) (K' := [(4, .val (.bool true))]) (L' := []) (by kernel_rfl) (by kernel_rfl) ?_
      cases h
      exact To.done hΓ (by kernel_rfl)
    · replace h := sum_r h
      refine To.blockR ?_
      refine To.thenR ?_
      refine To.keep (kk := [4]) (kl := []) (K' := [(4, .val (.bool o1))]) (L' := []) (by kernel_rfl) (by kernel_rfl) ?_
      cases h
      exact To.done hΓ (by kernel_rfl)
def ref27_Alike (n : Nat) (a0 : S_api_Spec) (a1 : S_api_Spec) : Option (Bool) :=
  (ref02_Same n a0.f_Nets a1.f_Nets).bind fun r1 =>
  ((if ((!r1) == false) = true then ref02_Same n a0.f_Vols a1.f_Vols else some false)).bind fun r2 =>
  if (bif (!r1) then true else (!r2)) = true then some false
  else (lett ((bif (bif (bif (bif (bif (bif (bif (a0.f_Name == a1.f_Name) then (a0.f_Project == a1.f_Project) else false) then (a0.f_Service == a1.f_Service) else false) then (a0.f_Number == a1.f_Number) else false) then (a0.f_Hash == a1.f_Hash) else false) then ((a0.f_Health.f_Test == a1.f_Health.f_Test) && ((a0.f_Health.f_Every == a1.f_Health.f_Every) && ((a0.f_Health.f_Start == a1.f_Health.f_Start) && (a0.f_Health.f_Retries == a1.f_Health.f_Retries)))) else false) then (a0.f_Restart == a1.f_Restart) else false) then (a0.f_Tries == a1.f_Tries) else false) : Bool) fun x3 =>
  some x3)
theorem ok_ref27_Alike (n : Nat) (a0 : S_api_Spec) (a1 : S_api_Spec) (r : Bool) (h : ref27_Alike n a0 a1 = some r) : CallsX Try.prog 45 [.agg [.str a0.f_Name, .str a0.f_Project, .str a0.f_Service, .val (.int .i64 a0.f_Number), .str a0.f_Hash, .recs (α := List UInt8) [] E_string a0.f_Nets, .recs (α := List UInt8) [] E_string a0.f_Vols, .str a0.f_Health.f_Test, .val (.int .i64 a0.f_Health.f_Every), .val (.int .i64 a0.f_Health.f_Start), .val (.int .i64 a0.f_Health.f_Retries), .val (.int .i64 a0.f_Restart), .val (.int .i64 a0.f_Tries)], .agg [.str a1.f_Name, .str a1.f_Project, .str a1.f_Service, .val (.int .i64 a1.f_Number), .str a1.f_Hash, .recs (α := List UInt8) [] E_string a1.f_Nets, .recs (α := List UInt8) [] E_string a1.f_Vols, .str a1.f_Health.f_Test, .val (.int .i64 a1.f_Health.f_Every), .val (.int .i64 a1.f_Health.f_Start), .val (.int .i64 a1.f_Health.f_Retries), .val (.int .i64 a1.f_Restart), .val (.int .i64 a1.f_Tries)]] (.val (.bool r)) := by
  unfold ref27_Alike at h
  refine callsX_of (fn := Try.f45) (by kernel_rfl) rfl (by kernel_rfl) (Nat.le_of_ble_eq_true (by kernel_rfl)) fun F0 w0 _ => ?_
  refine Wp.keep (kk := [0, 1]) (kl := []) (K' := [(0, .agg (E_api_Spec a0)), (1, .agg (E_api_Spec a1))]) (L' := []) (by kernel_rfl) (by kernel_rfl) ?_
  refine Wp.seq ?_
  refine Wp.region hΓ [] [] [] [2, 3] [2, 3] (K' := [(2, .own 2 0), (3, .own 3 0)]) (L' := [(2, 47, (E_api_Spec a0)), (3, 47, (E_api_Spec a1))]) (ob := []) (by kernel_rfl) AllP.nil ?_
  refine To.thenN ?_
  refine Wp.seq ?_
  refine Wp.seq ?_
  obtain ⟨r1, hr1, h⟩ := bind_of h
  obtain ⟨r2, hr2, h⟩ := bind_of h
  refine Wp.region hΓ [] [(4, .val (.bool r1)), (11, .val (.bool r2))] [] [2, 3, 18] [2, 3] (K' := [(2, .own 2 0), (3, .own 3 0), (18, .val (.bool (bif (!r1) then true else (!r2))))]) (L' := [(2, 47, (E_api_Spec a0)), (3, 47, (E_api_Spec a1))]) (ob := [(true = true → CX Try.prog 18 [.recs (α := List UInt8) [] E_string a0.f_Nets, .recs (α := List UInt8) [] E_string a1.f_Nets] (.val (.bool r1))), (((!r1) == false) = true → CX Try.prog 18 [.recs (α := List UInt8) [] E_string a0.f_Vols, .recs (α := List UInt8) [] E_string a1.f_Vols] (.val (.bool r2)))]) (by kernel_rfl) (AllP.cons (fun _ => cx (ok_ref02_Same n a0.f_Nets a1.f_Nets _ hr1)) (AllP.cons (fun hg => cx (ok_ref02_Same n a0.f_Vols a1.f_Vols _ (if_t hg hr2))) AllP.nil)) ?_
  refine To.thenN ?_
  refine Wp.cond (b := (bif (!r1) then true else (!r2))) (by kernel_rfl) (fun hb => ?_) (fun hb => ?_)
  · replace h := if_t hb h
    refine Wp.seq ?_
    refine Wp.region hΓ [] [] [] [4] [] (K' := [(4, .val (.bool false))]) (L' := []) (ob := []) (by kernel_rfl) AllP.nil ?_
    refine To.thenN ?_
    refine Wp.ret ?_
    refine To.thenR ?_
    refine To.keep (kk := [4]) (kl := []) (K' := [(4, .val (.bool false))]) (L' := []) (by kernel_rfl) (by kernel_rfl) ?_
    cases h
    exact To.done hΓ (by kernel_rfl)
  · replace h := if_f hb h
    refine Wp.skip ?_
    refine To.thenN ?_
    refine Wp.seq ?_
    obtain ⟨x3, hx3, h⟩ := lett_of h
    refine Wp.region hΓ [] [] [] [4] [] (K' := [(4, .val (.bool (bif (bif (bif (bif (bif (bif (bif (a0.f_Name == a1.f_Name) then (a0.f_Project == a1.f_Project) else false) then (a0.f_Service == a1.f_Service) else false) then (a0.f_Number == a1.f_Number) else false) then (a0.f_Hash == a1.f_Hash) else false) then ((a0.f_Health.f_Test == a1.f_Health.f_Test) && ((a0.f_Health.f_Every == a1.f_Health.f_Every) && ((a0.f_Health.f_Start == a1.f_Health.f_Start) && (a0.f_Health.f_Retries == a1.f_Health.f_Retries)))) else false) then (a0.f_Restart == a1.f_Restart) else false) then (a0.f_Tries == a1.f_Tries) else false)))]) (L' := []) (ob := []) (by kernel_rfl) AllP.nil ?_
    refine To.eq (K' := [(4, .val (.bool x3))]) (L' := []) (by cases hx3; rfl) (by cases hx3; rfl) ?_
    refine To.thenN ?_
    refine Wp.ret ?_
    refine To.keep (kk := [4]) (kl := []) (K' := [(4, .val (.bool x3))]) (L' := []) (by kernel_rfl) (by kernel_rfl) ?_
    cases h
    exact To.done hΓ (by kernel_rfl)
def law33_SameBoxes_l1 (n : Nat) (v0 : List (S_api_Container)) (v1 : List (S_api_Container)) : Nat → Int → Option (Sum (Unit) (Bool))
  | 0, _ => none
  | k + 1, v5 => if (decide (v5 < (List.length v0 : Int))) = true then (if (decide (0 ≤ v5 ∧ v5 < (List.length v0 : Int))) = true then (if (decide (0 ≤ v5 ∧ v5 < (List.length v1 : Int))) = true then (((if ((bif (bif (bif (bif ((((v0)[Int.toNat v5]?.getD Z_api_Container).f_Id) != (((v1)[Int.toNat v5]?.getD Z_api_Container).f_Id)) then true else ((((v0)[Int.toNat v5]?.getD Z_api_Container).f_State) != (((v1)[Int.toNat v5]?.getD Z_api_Container).f_State))) then true else ((((v0)[Int.toNat v5]?.getD Z_api_Container).f_Code) != (((v1)[Int.toNat v5]?.getD Z_api_Container).f_Code))) then true else ((((v0)[Int.toNat v5]?.getD Z_api_Container).f_Health) != (((v1)[Int.toNat v5]?.getD Z_api_Container).f_Health))) then true else ((((v0)[Int.toNat v5]?.getD Z_api_Container).f_Runs) != (((v1)[Int.toNat v5]?.getD Z_api_Container).f_Runs))) == false) = true then ref27_Alike n (((v0)[Int.toNat v5]?.getD Z_api_Container).f_Spec) (((v1)[Int.toNat v5]?.getD Z_api_Container).f_Spec) else some false)).bind fun r1 =>
  lett ((bif (bif (bif (bif (bif ((((v0)[Int.toNat v5]?.getD Z_api_Container).f_Id) != (((v1)[Int.toNat v5]?.getD Z_api_Container).f_Id)) then true else ((((v0)[Int.toNat v5]?.getD Z_api_Container).f_State) != (((v1)[Int.toNat v5]?.getD Z_api_Container).f_State))) then true else ((((v0)[Int.toNat v5]?.getD Z_api_Container).f_Code) != (((v1)[Int.toNat v5]?.getD Z_api_Container).f_Code))) then true else ((((v0)[Int.toNat v5]?.getD Z_api_Container).f_Health) != (((v1)[Int.toNat v5]?.getD Z_api_Container).f_Health))) then true else ((((v0)[Int.toNat v5]?.getD Z_api_Container).f_Runs) != (((v1)[Int.toNat v5]?.getD Z_api_Container).f_Runs))) then true else (!r1)) : Bool) fun x2 =>
  if x2 = true then (some (.inr false))
  else (law33_SameBoxes_l1 n v0 v1 k (IntKind.wrap .i64 (v5 + 1)))) else none) else none)
  else (some (.inl ()))
theorem ok_law33_SameBoxes_l1 (n : Nat) (v0 : List (S_api_Container)) (v1 : List (S_api_Container)) {F0 : Fz} {w0 : Pt Try.prog} {Q : Exit → Act → World → Prop} (k : Nat) : ∀ (v5 : Int) (o : Sum (Unit) (Bool)), law33_SameBoxes_l1 n v0 v1 k v5 = some o → (Sum.elim (fun s => To 68 F0 w0 [] [] (.exit 0) Q) (fun s => To 68 F0 w0 [(4, .val (.bool s))] [] .ret Q)) o → WL Try.prog 68 F0 w0 [(0, .recs (α := S_api_Container) Z_api_Container E_api_Container v0), (1, .recs (α := S_api_Container) Z_api_Container E_api_Container v1), (5, .val (.int .i64 v5))] [] (cI (cI (cB (cA (cB (cB (cF Try.f14))))))) Q := by
  induction k with
  | zero => intro v5 o h; cases h
  | succ k ih =>
    intro v5 o h hQ
    rw [law33_SameBoxes_l1] at h
    refine WL.round ?_
    refine Wp.seq ?_
    refine Wp.seq ?_
    refine Wp.region hΓ [] [] [] [0, 1, 5, 16] [] (K' := [(0, .recs (α := S_api_Container) Z_api_Container E_api_Container v0), (1, .recs (α := S_api_Container) Z_api_Container E_api_Container v1), (5, .val (.int .i64 v5)), (16, .val (.bool (decide (v5 < (List.length v0 : Int)))))]) (L' := []) (ob := []) (by kernel_rfl) AllP.nil ?_
    refine To.thenN ?_
    refine Wp.cond (b := (decide (v5 < (List.length v0 : Int)))) (by kernel_rfl) (fun hb => ?_) (fun hb => ?_)
    · replace h := if_t hb h
      refine Wp.skip ?_
      refine To.thenN ?_
      refine Wp.seq ?_
      refine Wp.block ?_
      refine Wp.seq ?_
      obtain ⟨hc3, h⟩ := chk_of h
      obtain ⟨hc4, h⟩ := chk_of h
      refine Wp.regionD hm hΓ [] [0, 1, 5, 6, 7] [6, 7] (K' := [(0, .recs (α := S_api_Container) Z_api_Container E_api_Container v0), (1, .recs (α := S_api_Container) Z_api_Container E_api_Container v1), (5, .val (.int .i64 v5)), (6, .own 6 0), (7, .own 7 0)]) (L' := [(6, 49, (E_api_Container ((v0)[Int.toNat v5]?.getD Z_api_Container))), (7, 49, (E_api_Container ((v1)[Int.toNat v5]?.getD Z_api_Container)))]) (ob := [(decide (0 ≤ v5 ∧ v5 < (List.length v0 : Int))) = true, (decide (0 ≤ v5 ∧ v5 < (List.length v1 : Int))) = true]) (by kernel_rfl) (AllP.cons hc3 (AllP.cons hc4 AllP.nil)) ?_
      refine To.thenN ?_
      refine Wp.seq ?_
      obtain ⟨r1, hr1, h⟩ := bind_of h
      obtain ⟨x2, hx2, h⟩ := lett_of h
      refine Wp.region hΓ [] [(38, .val (.bool r1))] [] [0, 1, 5, 67] [] (K' := [(0, .recs (α := S_api_Container) Z_api_Container E_api_Container v0), (1, .recs (α := S_api_Container) Z_api_Container E_api_Container v1), (5, .val (.int .i64 v5)), (67, .val (.bool (bif (bif (bif (bif (bif ((((v0)[Int.toNat v5]?.getD Z_api_Container).f_Id) != (((v1)[Int.toNat v5]?.getD Z_api_Container).f_Id)) then true else ((((v0)[Int.toNat v5]?.getD Z_api_Container).f_State) != (((v1)[Int.toNat v5]?.getD Z_api_Container).f_State))) then true else ((((v0)[Int.toNat v5]?.getD Z_api_Container).f_Code) != (((v1)[Int.toNat v5]?.getD Z_api_Container).f_Code))) then true else ((((v0)[Int.toNat v5]?.getD Z_api_Container).f_Health) != (((v1)[Int.toNat v5]?.getD Z_api_Container).f_Health))) then true else ((((v0)[Int.toNat v5]?.getD Z_api_Container).f_Runs) != (((v1)[Int.toNat v5]?.getD Z_api_Container).f_Runs))) then true else (!r1))))]) (L' := []) (ob := [(((bif (bif (bif (bif ((((v0)[Int.toNat v5]?.getD Z_api_Container).f_Id) != (((v1)[Int.toNat v5]?.getD Z_api_Container).f_Id)) then true else ((((v0)[Int.toNat v5]?.getD Z_api_Container).f_State) != (((v1)[Int.toNat v5]?.getD Z_api_Container).f_State))) then true else ((((v0)[Int.toNat v5]?.getD Z_api_Container).f_Code) != (((v1)[Int.toNat v5]?.getD Z_api_Container).f_Code))) then true else ((((v0)[Int.toNat v5]?.getD Z_api_Container).f_Health) != (((v1)[Int.toNat v5]?.getD Z_api_Container).f_Health))) then true else ((((v0)[Int.toNat v5]?.getD Z_api_Container).f_Runs) != (((v1)[Int.toNat v5]?.getD Z_api_Container).f_Runs))) == false) = true → CX Try.prog 45 [.agg [.str (((v0)[Int.toNat v5]?.getD Z_api_Container).f_Spec.f_Name), .str (((v0)[Int.toNat v5]?.getD Z_api_Container).f_Spec.f_Project), .str (((v0)[Int.toNat v5]?.getD Z_api_Container).f_Spec.f_Service), .val (.int .i64 (((v0)[Int.toNat v5]?.getD Z_api_Container).f_Spec.f_Number)), .str (((v0)[Int.toNat v5]?.getD Z_api_Container).f_Spec.f_Hash), .recs (α := List UInt8) [] E_string (((v0)[Int.toNat v5]?.getD Z_api_Container).f_Spec.f_Nets), .recs (α := List UInt8) [] E_string (((v0)[Int.toNat v5]?.getD Z_api_Container).f_Spec.f_Vols), .str (((v0)[Int.toNat v5]?.getD Z_api_Container).f_Spec.f_Health.f_Test), .val (.int .i64 (((v0)[Int.toNat v5]?.getD Z_api_Container).f_Spec.f_Health.f_Every)), .val (.int .i64 (((v0)[Int.toNat v5]?.getD Z_api_Container).f_Spec.f_Health.f_Start)), .val (.int .i64 (((v0)[Int.toNat v5]?.getD Z_api_Container).f_Spec.f_Health.f_Retries)), .val (.int .i64 (((v0)[Int.toNat v5]?.getD Z_api_Container).f_Spec.f_Restart)), .val (.int .i64 (((v0)[Int.toNat v5]?.getD Z_api_Container).f_Spec.f_Tries))], .agg [.str (((v1)[Int.toNat v5]?.getD Z_api_Container).f_Spec.f_Name), .str (((v1)[Int.toNat v5]?.getD Z_api_Container).f_Spec.f_Project), .str (((v1)[Int.toNat v5]?.getD Z_api_Container).f_Spec.f_Service), .val (.int .i64 (((v1)[Int.toNat v5]?.getD Z_api_Container).f_Spec.f_Number)), .str (((v1)[Int.toNat v5]?.getD Z_api_Container).f_Spec.f_Hash), .recs (α := List UInt8) [] E_string (((v1)[Int.toNat v5]?.getD Z_api_Container).f_Spec.f_Nets), .recs (α := List UInt8) [] E_string (((v1)[Int.toNat v5]?.getD Z_api_Container).f_Spec.f_Vols), .str (((v1)[Int.toNat v5]?.getD Z_api_Container).f_Spec.f_Health.f_Test), .val (.int .i64 (((v1)[Int.toNat v5]?.getD Z_api_Container).f_Spec.f_Health.f_Every)), .val (.int .i64 (((v1)[Int.toNat v5]?.getD Z_api_Container).f_Spec.f_Health.f_Start)), .val (.int .i64 (((v1)[Int.toNat v5]?.getD Z_api_Container).f_Spec.f_Health.f_Retries)), .val (.int .i64 (((v1)[Int.toNat v5]?.getD Z_api_Container).f_Spec.f_Restart)), .val (.int .i64 (((v1)[Int.toNat v5]?.getD Z_api_Container).f_Spec.f_Tries))]] (.val (.bool r1)))]) (by kernel_rfl) (AllP.cons (fun hg => cx (ok_ref27_Alike n (((v0)[Int.toNat v5]?.getD Z_api_Container).f_Spec) (((v1)[Int.toNat v5]?.getD Z_api_Container).f_Spec) _ (if_t hg hr1))) AllP.nil) ?_
      refine To.eq (K' := [(0, .recs (α := S_api_Container) Z_api_Container E_api_Container v0), (1, .recs (α := S_api_Container) Z_api_Container E_api_Container v1), (5, .val (.int .i64 v5)), (67, .val (.bool x2))]) (L' := []) (by cases hx2; rfl) (by cases hx2; rfl) ?_
      refine To.thenN ?_
      refine Wp.cond (b := x2) (by kernel_rfl) (fun hb => ?_) (fun hb => ?_)
      · replace h := if_t hb h
        refine Wp.seq ?_
        refine Wp.region hΓ [] [] [] [4] [] (K' := [(4, .val (.bool false))]) (L' := []) (ob := []) (by kernel_rfl) AllP.nil ?_
        refine To.thenN ?_
        refine Wp.ret ?_
        refine To.blockR ?_
        refine To.thenR ?_
        refine To.thenR ?_
        refine To.keep (kk := [4]) (kl := []) (K' := [(4, .val (.bool false))]) (L' := []) (by kernel_rfl) (by kernel_rfl) ?_
        cases h
        exact hQ
      · replace h := if_f hb h
        refine Wp.skip ?_
        refine To.blockN ?_
        refine To.thenN ?_
        refine Wp.region hΓ [] [] [] [0, 1, 5] [] (K' := [(0, .recs (α := S_api_Container) Z_api_Container E_api_Container v0), (1, .recs (α := S_api_Container) Z_api_Container E_api_Container v1), (5, .val (.int .i64 (IntKind.wrap .i64 (v5 + 1))))]) (L' := []) (ob := []) (by kernel_rfl) AllP.nil ?_
        refine To.keep (kk := [0, 1, 5]) (kl := []) (K' := [(0, .recs (α := S_api_Container) Z_api_Container E_api_Container v0), (1, .recs (α := S_api_Container) Z_api_Container E_api_Container v1), (5, .val (.int .i64 (IntKind.wrap .i64 (v5 + 1))))]) (L' := []) (by kernel_rfl) (by kernel_rfl) ?_
        refine To.again ?_
        exact ih (IntKind.wrap .i64 (v5 + 1)) _ h hQ
    · replace h := if_f hb h
      refine Wp.exit ?_
      refine To.thenX ?_
      refine To.thenX ?_
      refine To.keep (kk := []) (kl := []) (K' := []) (L' := []) (by kernel_rfl) (by kernel_rfl) ?_
      cases h
      exact hQ
def law33_SameBoxes (n : Nat) (a0 : List (S_api_Container)) (a1 : List (S_api_Container)) : Option (Bool) :=
  if ((List.length a0 : Int) != (List.length a1 : Int)) = true then some false
  else ((law33_SameBoxes_l1 n a0 a1 n 0).bind fun o1 =>
  (Sum.elim (fun o1 => some true) (fun o1 => some o1)) o1)
theorem ok_law33_SameBoxes (n : Nat) (a0 : List (S_api_Container)) (a1 : List (S_api_Container)) (r : Bool) (h : law33_SameBoxes n a0 a1 = some r) : CallsX Try.prog 14 [.recs (α := S_api_Container) Z_api_Container E_api_Container a0, .recs (α := S_api_Container) Z_api_Container E_api_Container a1] (.val (.bool r)) := by
  unfold law33_SameBoxes at h
  refine callsX_of (fn := Try.f14) (by kernel_rfl) rfl (by kernel_rfl) (Nat.le_of_ble_eq_true (by kernel_rfl)) fun F0 w0 _ => ?_
  refine Wp.keep (kk := [0, 1]) (kl := []) (K' := [(0, .recs (α := S_api_Container) Z_api_Container E_api_Container a0), (1, .recs (α := S_api_Container) Z_api_Container E_api_Container a1)]) (L' := []) (by kernel_rfl) (by kernel_rfl) ?_
  refine Wp.seq ?_
  refine Wp.region hΓ [] [] [] [0, 1] [] (K' := [(0, .recs (α := S_api_Container) Z_api_Container E_api_Container a0), (1, .recs (α := S_api_Container) Z_api_Container E_api_Container a1)]) (L' := []) (ob := []) (by kernel_rfl) AllP.nil ?_
  refine To.thenN ?_
  refine Wp.seq ?_
  refine Wp.seq ?_
  refine Wp.region hΓ [] [] [] [0, 1, 12] [] (K' := [(0, .recs (α := S_api_Container) Z_api_Container E_api_Container a0), (1, .recs (α := S_api_Container) Z_api_Container E_api_Container a1), (12, .val (.bool ((List.length a0 : Int) != (List.length a1 : Int))))]) (L' := []) (ob := []) (by kernel_rfl) AllP.nil ?_
  refine To.thenN ?_
  refine Wp.cond (b := ((List.length a0 : Int) != (List.length a1 : Int))) (by kernel_rfl) (fun hb => ?_) (fun hb => ?_)
  · replace h := if_t hb h
    refine Wp.seq ?_
    refine Wp.region hΓ [] [] [] [4] [] (K' := [(4, .val (.bool false))]) (L' := []) (ob := []) (by kernel_rfl) AllP.nil ?_
    refine To.thenN ?_
    refine Wp.ret ?_
    refine To.thenR ?_
    refine To.keep (kk := [4]) (kl := []) (K' := [(4, .val (.bool false))]) (L' := []) (by kernel_rfl) (by kernel_rfl) ?_
    cases h
    exact To.done hΓ (by kernel_rfl)
  · replace h := if_f hb h
    refine Wp.skip ?_
    refine To.thenN ?_
    refine Wp.seq ?_
    refine Wp.seq ?_
    refine Wp.region hΓ [] [] [] [0, 1, 5] [] (K' := [(0, .recs (α := S_api_Container) Z_api_Container E_api_Container a0), (1, .recs (α := S_api_Container) Z_api_Container E_api_Container a1), (5, .val (.int .i64 0))]) (L' := []) (ob := []) (by kernel_rfl) AllP.nil ?_
    refine To.thenN ?_
    refine Wp.block ?_
    obtain ⟨o1, ho1, h⟩ := bind_of h
    refine Wp.keep (kk := [0, 1, 5]) (kl := []) (K' := [(0, .recs (α := S_api_Container) Z_api_Container E_api_Container a0), (1, .recs (α := S_api_Container) Z_api_Container E_api_Container a1), (5, .val (.int .i64 0))]) (L' := []) (by kernel_rfl) (by kernel_rfl) ?_
    refine Wp.loopL ?_
    refine ok_law33_SameBoxes_l1 n a0 a1 n 0 o1 ho1 ?_
    rcases o1 with o1 | o1
    · replace h := sum_l h
      refine To.blockX ?_
      refine To.thenN ?_
      refine Wp.seq ?_
      refine Wp.region hΓ [] [] [] [4] [] (K' := [(4, .val (.bool true))]) (L' := []) (ob := []) (by kernel_rfl) AllP.nil ?_
      refine To.thenN ?_
      refine Wp.ret ?_
      refine To.keep (kk := [4]) (kl := []) (K' := [(4, .val (.bool true))]) (L' := []) (by kernel_rfl) (by kernel_rfl) ?_
      cases h
      exact To.done hΓ (by kernel_rfl)
    · replace h := sum_r h
      refine To.blockR ?_
      refine To.thenR ?_
      refine To.keep (kk := [4]) (kl := []) (K' := [(4, .val (.bool o1))]) (L' := []) (by kernel_rfl) (by kernel_rfl) ?_
      cases h
      exact To.done hΓ (by kernel_rfl)
def ref33_SameKept_l1 (n : Nat) (v0 : List (S_api_Kept)) (v1 : List (S_api_Kept)) : Nat → Int → Option (Sum (Unit) (Bool))
  | 0, _ => none
  | k + 1, v5 => if (decide (v5 < (List.length v0 : Int))) = true then (if (decide (0 ≤ v5 ∧ v5 < (List.length v0 : Int))) = true then (if (decide (0 ≤ v5 ∧ v5 < (List.length v1 : Int))) = true then (lett ((!((((v0)[Int.toNat v5]?.getD (S_api_Kept.mk [] [])).f_Name == ((v1)[Int.toNat v5]?.getD (S_api_Kept.mk [] [])).f_Name) && (((v0)[Int.toNat v5]?.getD (S_api_Kept.mk [] [])).f_Project == ((v1)[Int.toNat v5]?.getD (S_api_Kept.mk [] [])).f_Project))) : Bool) fun x1 =>
  if x1 = true then (some (.inr false))
  else (ref33_SameKept_l1 n v0 v1 k (IntKind.wrap .i64 (v5 + 1)))) else none) else none)
  else (some (.inl ()))
theorem ok_ref33_SameKept_l1 (n : Nat) (v0 : List (S_api_Kept)) (v1 : List (S_api_Kept)) {F0 : Fz} {w0 : Pt Try.prog} {Q : Exit → Act → World → Prop} (k : Nat) : ∀ (v5 : Int) (o : Sum (Unit) (Bool)), ref33_SameKept_l1 n v0 v1 k v5 = some o → (Sum.elim (fun s => To 26 F0 w0 [] [] (.exit 0) Q) (fun s => To 26 F0 w0 [(4, .val (.bool s))] [] .ret Q)) o → WL Try.prog 26 F0 w0 [(0, .recs (α := S_api_Kept) (S_api_Kept.mk [] []) E_api_Kept v0), (1, .recs (α := S_api_Kept) (S_api_Kept.mk [] []) E_api_Kept v1), (5, .val (.int .i64 v5))] [] (cI (cI (cB (cA (cB (cB (cF Try.f35))))))) Q := by
  induction k with
  | zero => intro v5 o h; cases h
  | succ k ih =>
    intro v5 o h hQ
    rw [ref33_SameKept_l1] at h
    refine WL.round ?_
    refine Wp.seq ?_
    refine Wp.seq ?_
    refine Wp.region hΓ [] [] [] [0, 1, 5, 14] [] (K' := [(0, .recs (α := S_api_Kept) (S_api_Kept.mk [] []) E_api_Kept v0), (1, .recs (α := S_api_Kept) (S_api_Kept.mk [] []) E_api_Kept v1), (5, .val (.int .i64 v5)), (14, .val (.bool (decide (v5 < (List.length v0 : Int)))))]) (L' := []) (ob := []) (by kernel_rfl) AllP.nil ?_
    refine To.thenN ?_
    refine Wp.cond (b := (decide (v5 < (List.length v0 : Int)))) (by kernel_rfl) (fun hb => ?_) (fun hb => ?_)
    · replace h := if_t hb h
      refine Wp.skip ?_
      refine To.thenN ?_
      refine Wp.seq ?_
      refine Wp.block ?_
      refine Wp.seq ?_
      obtain ⟨hc2, h⟩ := chk_of h
      obtain ⟨hc3, h⟩ := chk_of h
      obtain ⟨x1, hx1, h⟩ := lett_of h
      refine Wp.regionD hm hΓ [] [0, 1, 5, 25] [] (K' := [(0, .recs (α := S_api_Kept) (S_api_Kept.mk [] []) E_api_Kept v0), (1, .recs (α := S_api_Kept) (S_api_Kept.mk [] []) E_api_Kept v1), (5, .val (.int .i64 v5)), (25, .val (.bool (!((((v0)[Int.toNat v5]?.getD (S_api_Kept.mk [] [])).f_Name == ((v1)[Int.toNat v5]?.getD (S_api_Kept.mk [] [])).f_Name) && (((v0)[Int.toNat v5]?.getD (S_api_Kept.mk [] [])).f_Project == ((v1)[Int.toNat v5]?.getD (S_api_Kept.mk [] [])).f_Project)))))]) (L' := []) (ob := [(decide (0 ≤ v5 ∧ v5 < (List.length v0 : Int))) = true, (decide (0 ≤ v5 ∧ v5 < (List.length v1 : Int))) = true]) (by kernel_rfl) (AllP.cons hc2 (AllP.cons hc3 AllP.nil)) ?_
      refine To.eq (K' := [(0, .recs (α := S_api_Kept) (S_api_Kept.mk [] []) E_api_Kept v0), (1, .recs (α := S_api_Kept) (S_api_Kept.mk [] []) E_api_Kept v1), (5, .val (.int .i64 v5)), (25, .val (.bool x1))]) (L' := []) (by cases hx1; rfl) (by cases hx1; rfl) ?_
      refine To.thenN ?_
      refine Wp.cond (b := x1) (by kernel_rfl) (fun hb => ?_) (fun hb => ?_)
      · replace h := if_t hb h
        refine Wp.seq ?_
        refine Wp.region hΓ [] [] [] [4] [] (K' := [(4, .val (.bool false))]) (L' := []) (ob := []) (by kernel_rfl) AllP.nil ?_
        refine To.thenN ?_
        refine Wp.ret ?_
        refine To.blockR ?_
        refine To.thenR ?_
        refine To.thenR ?_
        refine To.keep (kk := [4]) (kl := []) (K' := [(4, .val (.bool false))]) (L' := []) (by kernel_rfl) (by kernel_rfl) ?_
        cases h
        exact hQ
      · replace h := if_f hb h
        refine Wp.skip ?_
        refine To.blockN ?_
        refine To.thenN ?_
        refine Wp.region hΓ [] [] [] [0, 1, 5] [] (K' := [(0, .recs (α := S_api_Kept) (S_api_Kept.mk [] []) E_api_Kept v0), (1, .recs (α := S_api_Kept) (S_api_Kept.mk [] []) E_api_Kept v1), (5, .val (.int .i64 (IntKind.wrap .i64 (v5 + 1))))]) (L' := []) (ob := []) (by kernel_rfl) AllP.nil ?_
        refine To.keep (kk := [0, 1, 5]) (kl := []) (K' := [(0, .recs (α := S_api_Kept) (S_api_Kept.mk [] []) E_api_Kept v0), (1, .recs (α := S_api_Kept) (S_api_Kept.mk [] []) E_api_Kept v1), (5, .val (.int .i64 (IntKind.wrap .i64 (v5 + 1))))]) (L' := []) (by kernel_rfl) (by kernel_rfl) ?_
        refine To.again ?_
        exact ih (IntKind.wrap .i64 (v5 + 1)) _ h hQ
    · replace h := if_f hb h
      refine Wp.exit ?_
      refine To.thenX ?_
      refine To.thenX ?_
      refine To.keep (kk := []) (kl := []) (K' := []) (L' := []) (by kernel_rfl) (by kernel_rfl) ?_
      cases h
      exact hQ
def ref33_SameKept (n : Nat) (a0 : List (S_api_Kept)) (a1 : List (S_api_Kept)) : Option (Bool) :=
  if ((List.length a0 : Int) != (List.length a1 : Int)) = true then some false
  else ((ref33_SameKept_l1 n a0 a1 n 0).bind fun o1 =>
  (Sum.elim (fun o1 => some true) (fun o1 => some o1)) o1)
theorem ok_ref33_SameKept (n : Nat) (a0 : List (S_api_Kept)) (a1 : List (S_api_Kept)) (r : Bool) (h : ref33_SameKept n a0 a1 = some r) : CallsX Try.prog 35 [.recs (α := S_api_Kept) (S_api_Kept.mk [] []) E_api_Kept a0, .recs (α := S_api_Kept) (S_api_Kept.mk [] []) E_api_Kept a1] (.val (.bool r)) := by
  unfold ref33_SameKept at h
  refine callsX_of (fn := Try.f35) (by kernel_rfl) rfl (by kernel_rfl) (Nat.le_of_ble_eq_true (by kernel_rfl)) fun F0 w0 _ => ?_
  refine Wp.keep (kk := [0, 1]) (kl := []) (K' := [(0, .recs (α := S_api_Kept) (S_api_Kept.mk [] []) E_api_Kept a0), (1, .recs (α := S_api_Kept) (S_api_Kept.mk [] []) E_api_Kept a1)]) (L' := []) (by kernel_rfl) (by kernel_rfl) ?_
  refine Wp.seq ?_
  refine Wp.region hΓ [] [] [] [0, 1] [] (K' := [(0, .recs (α := S_api_Kept) (S_api_Kept.mk [] []) E_api_Kept a0), (1, .recs (α := S_api_Kept) (S_api_Kept.mk [] []) E_api_Kept a1)]) (L' := []) (ob := []) (by kernel_rfl) AllP.nil ?_
  refine To.thenN ?_
  refine Wp.seq ?_
  refine Wp.seq ?_
  refine Wp.region hΓ [] [] [] [0, 1, 10] [] (K' := [(0, .recs (α := S_api_Kept) (S_api_Kept.mk [] []) E_api_Kept a0), (1, .recs (α := S_api_Kept) (S_api_Kept.mk [] []) E_api_Kept a1), (10, .val (.bool ((List.length a0 : Int) != (List.length a1 : Int))))]) (L' := []) (ob := []) (by kernel_rfl) AllP.nil ?_
  refine To.thenN ?_
  refine Wp.cond (b := ((List.length a0 : Int) != (List.length a1 : Int))) (by kernel_rfl) (fun hb => ?_) (fun hb => ?_)
  · replace h := if_t hb h
    refine Wp.seq ?_
    refine Wp.region hΓ [] [] [] [4] [] (K' := [(4, .val (.bool false))]) (L' := []) (ob := []) (by kernel_rfl) AllP.nil ?_
    refine To.thenN ?_
    refine Wp.ret ?_
    refine To.thenR ?_
    refine To.keep (kk := [4]) (kl := []) (K' := [(4, .val (.bool false))]) (L' := []) (by kernel_rfl) (by kernel_rfl) ?_
    cases h
    exact To.done hΓ (by kernel_rfl)
  · replace h := if_f hb h
    refine Wp.skip ?_
    refine To.thenN ?_
    refine Wp.seq ?_
    refine Wp.seq ?_
    refine Wp.region hΓ [] [] [] [0, 1, 5] [] (K' := [(0, .recs (α := S_api_Kept) (S_api_Kept.mk [] []) E_api_Kept a0), (1, .recs (α := S_api_Kept) (S_api_Kept.mk [] []) E_api_Kept a1), (5, .val (.int .i64 0))]) (L' := []) (ob := []) (by kernel_rfl) AllP.nil ?_
    refine To.thenN ?_
    refine Wp.block ?_
    obtain ⟨o1, ho1, h⟩ := bind_of h
    refine Wp.keep (kk := [0, 1, 5]) (kl := []) (K' := [(0, .recs (α := S_api_Kept) (S_api_Kept.mk [] []) E_api_Kept a0), (1, .recs (α := S_api_Kept) (S_api_Kept.mk [] []) E_api_Kept a1), (5, .val (.int .i64 0))]) (L' := []) (by kernel_rfl) (by kernel_rfl) ?_
    refine Wp.loopL ?_
    refine ok_ref33_SameKept_l1 n a0 a1 n 0 o1 ho1 ?_
    rcases o1 with o1 | o1
    · replace h := sum_l h
      refine To.blockX ?_
      refine To.thenN ?_
      refine Wp.seq ?_
      refine Wp.region hΓ [] [] [] [4] [] (K' := [(4, .val (.bool true))]) (L' := []) (ob := []) (by kernel_rfl) AllP.nil ?_
      refine To.thenN ?_
      refine Wp.ret ?_
      refine To.keep (kk := [4]) (kl := []) (K' := [(4, .val (.bool true))]) (L' := []) (by kernel_rfl) (by kernel_rfl) ?_
      cases h
      exact To.done hΓ (by kernel_rfl)
    · replace h := sum_r h
      refine To.blockR ?_
      refine To.thenR ?_
      refine To.keep (kk := [4]) (kl := []) (K' := [(4, .val (.bool o1))]) (L' := []) (by kernel_rfl) (by kernel_rfl) ?_
      cases h
      exact To.done hΓ (by kernel_rfl)
def ref02_Sorted_j3 (n : Nat) (v0 : List (List UInt8)) (v3 : List (List UInt8)) (v4 : Int) (v5 : Int) : Option (Int) :=
  if ((!(((List.length v3 : Int) == 0) == false) || decide (0 ≤ v5 ∧ v5 < (List.length v0 : Int)))) = true then (if ((!(((List.length v3 : Int) == 0) == false) || decide (0 ≤ (IntKind.wrap .i64 ((List.length v3 : Int) - 1)) ∧ (IntKind.wrap .i64 ((List.length v3 : Int) - 1)) < (List.length v3 : Int)))) = true then (if ((!(((decide (v4 < 0)) == false) && ((bif ((List.length v3 : Int) == 0) then true else (!(Op.bytesLess ((v0)[Int.toNat v5]?.getD []) ((v3)[Int.toNat (IntKind.wrap .i64 ((List.length v3 : Int) - 1))]?.getD []) || ((v0)[Int.toNat v5]?.getD []) == ((v3)[Int.toNat (IntKind.wrap .i64 ((List.length v3 : Int) - 1))]?.getD [])))) == true)) || decide (0 ≤ v5 ∧ v5 < (List.length v0 : Int)))) = true then (if ((!(((decide (v4 < 0)) == false) && ((bif ((List.length v3 : Int) == 0) then true else (!(Op.bytesLess ((v0)[Int.toNat v5]?.getD []) ((v3)[Int.toNat (IntKind.wrap .i64 ((List.length v3 : Int) - 1))]?.getD []) || ((v0)[Int.toNat v5]?.getD []) == ((v3)[Int.toNat (IntKind.wrap .i64 ((List.length v3 : Int) - 1))]?.getD [])))) == true)) || decide (0 ≤ v4 ∧ v4 < (List.length v0 : Int)))) = true then (lett ((bif (bif ((List.length v3 : Int) == 0) then true else (!(Op.bytesLess ((v0)[Int.toNat v5]?.getD []) ((v3)[Int.toNat (IntKind.wrap .i64 ((List.length v3 : Int) - 1))]?.getD []) || ((v0)[Int.toNat v5]?.getD []) == ((v3)[Int.toNat (IntKind.wrap .i64 ((List.length v3 : Int) - 1))]?.getD [])))) then (bif (decide (v4 < 0)) then true else (Op.bytesLess ((v0)[Int.toNat v5]?.getD []) ((v0)[Int.toNat v4]?.getD []))) else false) : Bool) fun x1 =>
  if x1 = true then some v5
  else some v4) else none) else none) else none) else none
theorem ok_ref02_Sorted_j3 (n : Nat) (v0 : List (List UInt8)) (v3 : List (List UInt8)) (v4 : Int) (v5 : Int) (o : Int) (h : ref02_Sorted_j3 n v0 v3 v4 v5 = some o) {F0 : Fz} {w0 : Pt Try.prog} {Q : Exit → Act → World → Prop} (hQ : To 55 F0 w0 [(0, .recs (α := List UInt8) [] E_string v0), (3, .row 1003), (4, .val (.int .i64 o)), (5, .val (.int .i64 v5))] [(1003, 9, [.rowc false (α := List UInt8) [] E_string v3])] .normal Q) : Wp Try.prog 55 F0 w0 [(0, .recs (α := List UInt8) [] E_string v0), (3, .row 1003), (4, .val (.int .i64 v4)), (5, .val (.int .i64 v5))] [(1003, 9, [.rowc false (α := List UInt8) [] E_string v3])] (cA (cB (cI (cI (cB (cA (cB (cI (cI (cI (cB (cB (cF Try.f65))))))))))))) Q := by
  unfold ref02_Sorted_j3 at h
  refine Wp.block ?_
  refine Wp.seq ?_
  obtain ⟨hc2, h⟩ := chk_of h
  obtain ⟨hc3, h⟩ := chk_of h
  obtain ⟨hc4, h⟩ := chk_of h
  obtain ⟨hc5, h⟩ := chk_of h
  obtain ⟨x1, hx1, h⟩ := lett_of h
  refine Wp.regionD hm hΓ [] [0, 3, 4, 5, 43] [1003] (K' := [(0, .recs (α := List UInt8) [] E_string v0), (3, .row 1003), (4, .val (.int .i64 v4)), (5, .val (.int .i64 v5)), (43, .val (.bool (bif (bif ((List.length v3 : Int) == 0) then true else (!(Op.bytesLess ((v0)[Int.toNat v5]?.getD []) ((v3)[Int.toNat (IntKind.wrap .i64 ((List.length v3 : Int) - 1))]?.getD []) || ((v0)[Int.toNat v5]?.getD []) == ((v3)[Int.toNat (IntKind.wrap .i64 ((List.length v3 : Int) - 1))]?.getD [])))) then (bif (decide (v4 < 0)) then true else (Op.bytesLess ((v0)[Int.toNat v5]?.getD []) ((v0)[Int.toNat v4]?.getD []))) else false)))]) (L' := [(1003, 9, [.rowc false (α := List UInt8) [] E_string v3])]) (ob := [(!(((List.length v3 : Int) == 0) == false) || decide (0 ≤ v5 ∧ v5 < (List.length v0 : Int))) = true, (!(((List.length v3 : Int) == 0) == false) || decide (0 ≤ (IntKind.wrap .i64 ((List.length v3 : Int) - 1)) ∧ (IntKind.wrap .i64 ((List.length v3 : Int) - 1)) < (List.length v3 : Int))) = true, (!(((List.length v3 : Int) == 0) == false) || decide (0 ≤ (IntKind.wrap .i64 ((List.length v3 : Int) - 1)) ∧ (IntKind.wrap .i64 ((List.length v3 : Int) - 1)) < (List.length v3 : Int))) = true, (!(((decide (v4 < 0)) == false) && ((bif ((List.length v3 : Int) == 0) then true else (!(Op.bytesLess ((v0)[Int.toNat v5]?.getD []) ((v3)[Int.toNat (IntKind.wrap .i64 ((List.length v3 : Int) - 1))]?.getD []) || ((v0)[Int.toNat v5]?.getD []) == ((v3)[Int.toNat (IntKind.wrap .i64 ((List.length v3 : Int) - 1))]?.getD [])))) == true)) || decide (0 ≤ v5 ∧ v5 < (List.length v0 : Int))) = true, (!(((decide (v4 < 0)) == false) && ((bif ((List.length v3 : Int) == 0) then true else (!(Op.bytesLess ((v0)[Int.toNat v5]?.getD []) ((v3)[Int.toNat (IntKind.wrap .i64 ((List.length v3 : Int) - 1))]?.getD []) || ((v0)[Int.toNat v5]?.getD []) == ((v3)[Int.toNat (IntKind.wrap .i64 ((List.length v3 : Int) - 1))]?.getD [])))) == true)) || decide (0 ≤ v4 ∧ v4 < (List.length v0 : Int))) = true]) (by kernel_rfl) (AllP.cons hc2 (AllP.cons hc3 (AllP.cons hc3 (AllP.cons hc4 (AllP.cons hc5 AllP.nil))))) ?_
  refine To.eq (K' := [(0, .recs (α := List UInt8) [] E_string v0), (3, .row 1003), (4, .val (.int .i64 v4)), (5, .val (.int .i64 v5)), (43, .val (.bool x1))]) (L' := [(1003, 9, [.rowc false (α := List UInt8) [] E_string v3])]) (by cases hx1; rfl) (by cases hx1; rfl) ?_
  refine To.thenN ?_
  refine Wp.cond (b := x1) (by kernel_rfl) (fun hb => ?_) (fun hb => ?_)
  · replace h := if_t hb h
    refine Wp.region hΓ [] [] [] [0, 3, 4, 5] [1003] (K' := [(0, .recs (α := List UInt8) [] E_string v0), (3, .row 1003), (4, .val (.int .i64 v5)), (5, .val (.int .i64 v5))]) (L' := [(1003, 9, [.rowc false (α := List UInt8) [] E_string v3])]) (ob := []) (by kernel_rfl) AllP.nil ?_
    refine To.blockN ?_
    refine To.keep (kk := [0, 3, 4, 5]) (kl := [1003]) (K' := [(0, .recs (α := List UInt8) [] E_string v0), (3, .row 1003), (4, .val (.int .i64 v5)), (5, .val (.int .i64 v5))]) (L' := [(1003, 9, [.rowc false (α := List UInt8) [] E_string v3])]) (by kernel_rfl) (by kernel_rfl) ?_
    cases h
    exact hQ
  · replace h := if_f hb h
    refine Wp.skip ?_
    refine To.blockN ?_
    refine To.keep (kk := [0, 3, 4, 5]) (kl := [1003]) (K' := [(0, .recs (α := List UInt8) [] E_string v0), (3, .row 1003), (4, .val (.int .i64 v4)), (5, .val (.int .i64 v5))]) (L' := [(1003, 9, [.rowc false (α := List UInt8) [] E_string v3])]) (by kernel_rfl) (by kernel_rfl) ?_
    cases h
    exact hQ
def ref02_Sorted_l2 (n : Nat) (v0 : List (List UInt8)) (v3 : List (List UInt8)) : Nat → Int → Int → Option (Int)
  | 0, _, _ => none
  | k + 1, v4, v5 => if (decide (v5 < (List.length v0 : Int))) = true then ((ref02_Sorted_j3 n v0 v3 v4 v5).bind fun o1 =>
  ref02_Sorted_l2 n v0 v3 k o1 (IntKind.wrap .i64 (v5 + 1)))
  else some v4
theorem ok_ref02_Sorted_l2 (n : Nat) (v0 : List (List UInt8)) (v3 : List (List UInt8)) {F0 : Fz} {w0 : Pt Try.prog} {Q : Exit → Act → World → Prop} (k : Nat) : ∀ (v4 : Int) (v5 : Int) (o : Int), ref02_Sorted_l2 n v0 v3 k v4 v5 = some o → To 55 F0 w0 [(0, .recs (α := List UInt8) [] E_string v0), (3, .row 1003), (4, .val (.int .i64 o))] [(1003, 9, [.rowc false (α := List UInt8) [] E_string v3])] (.exit 2) Q → WL Try.prog 55 F0 w0 [(0, .recs (α := List UInt8) [] E_string v0), (3, .row 1003), (4, .val (.int .i64 v4)), (5, .val (.int .i64 v5))] [(1003, 9, [.rowc false (α := List UInt8) [] E_string v3])] (cI (cI (cB (cA (cB (cI (cI (cI (cB (cB (cF Try.f65))))))))))) Q := by
  induction k with
  | zero => intro v4 v5 o h; cases h
  | succ k ih =>
    intro v4 v5 o h hQ
    rw [ref02_Sorted_l2] at h
    refine WL.round ?_
    refine Wp.seq ?_
    refine Wp.seq ?_
    refine Wp.region hΓ [] [] [] [0, 3, 4, 5, 10] [1003] (K' := [(0, .recs (α := List UInt8) [] E_string v0), (3, .row 1003), (4, .val (.int .i64 v4)), (5, .val (.int .i64 v5)), (10, .val (.bool (decide (v5 < (List.length v0 : Int)))))]) (L' := [(1003, 9, [.rowc false (α := List UInt8) [] E_string v3])]) (ob := []) (by kernel_rfl) AllP.nil ?_
    refine To.thenN ?_
    refine Wp.cond (b := (decide (v5 < (List.length v0 : Int)))) (by kernel_rfl) (fun hb => ?_) (fun hb => ?_)
    · replace h := if_t hb h
      refine Wp.skip ?_
      refine To.thenN ?_
      refine Wp.seq ?_
      obtain ⟨o1, ho1, h⟩ := bind_of h
      refine Wp.keep (kk := [0, 3, 4, 5]) (kl := [1003]) (K' := [(0, .recs (α := List UInt8) [] E_string v0), (3, .row 1003), (4, .val (.int .i64 v4)), (5, .val (.int .i64 v5))]) (L' := [(1003, 9, [.rowc false (α := List UInt8) [] E_string v3])]) (by kernel_rfl) (by kernel_rfl) ?_
      refine ok_ref02_Sorted_j3 n v0 v3 v4 v5 o1 ho1 ?_
      refine To.thenN ?_
      refine Wp.region hΓ [] [] [] [0, 3, 4, 5] [1003] (K' := [(0, .recs (α := List UInt8) [] E_string v0), (3, .row 1003), (4, .val (.int .i64 o1)), (5, .val (.int .i64 (IntKind.wrap .i64 (v5 + 1))))]) (L' := [(1003, 9, [.rowc false (α := List UInt8) [] E_string v3])]) (ob := []) (by kernel_rfl) AllP.nil ?_
      refine To.keep (kk := [0, 3, 4, 5]) (kl := [1003]) (K' := [(0, .recs (α := List UInt8) [] E_string v0), (3, .row 1003), (4, .val (.int .i64 o1)), (5, .val (.int .i64 (IntKind.wrap .i64 (v5 + 1))))]) (L' := [(1003, 9, [.rowc false (α := List UInt8) [] E_string v3])]) (by kernel_rfl) (by kernel_rfl) ?_
      refine To.again ?_
      exact ih o1 (IntKind.wrap .i64 (v5 + 1)) _ h hQ
    · replace h := if_f hb h
      refine Wp.exit ?_
      refine To.thenX ?_
      refine To.thenX ?_
      refine To.keep (kk := [0, 3, 4]) (kl := [1003]) (K' := [(0, .recs (α := List UInt8) [] E_string v0), (3, .row 1003), (4, .val (.int .i64 v4))]) (L' := [(1003, 9, [.rowc false (α := List UInt8) [] E_string v3])]) (by kernel_rfl) (by kernel_rfl) ?_
      cases h
      exact hQ
def ref02_Sorted_l1 (n : Nat) (v0 : List (List UInt8)) : Nat → (List (List UInt8)) → Option ((List (List UInt8)))
  | 0, _ => none
  | k + 1, v3 => (ref02_Sorted_l2 n v0 v3 n (-1) 0).bind fun o1 =>
  if (decide (o1 < 0)) = true then some v3
  else (if (decide (0 ≤ o1 ∧ o1 < (List.length v0 : Int))) = true then (if (decide ((List.length v3 + List.length ([((v0)[Int.toNat o1]?.getD [])] : List (List UInt8))) * (16 + 1) ≤ limit)) = true then (ref02_Sorted_l1 n v0 k (v3 ++ ([((v0)[Int.toNat o1]?.getD [])] : List (List UInt8)))) else none) else none)
theorem ok_ref02_Sorted_l1 (n : Nat) (v0 : List (List UInt8)) {F0 : Fz} {w0 : Pt Try.prog} {Q : Exit → Act → World → Prop} (k : Nat) : ∀ (v3 : List (List UInt8)) (o : (List (List UInt8))), ref02_Sorted_l1 n v0 k v3 = some o → To 55 F0 w0 [(2, .row 1002)] [(1002, 9, [.rowc false (α := List UInt8) [] E_string o])] .ret Q → WL Try.prog 55 F0 w0 [(0, .recs (α := List UInt8) [] E_string v0), (3, .row 1003)] [(1003, 9, [.rowc false (α := List UInt8) [] E_string v3])] (cI (cI (cB (cB (cF Try.f65))))) Q := by
  induction k with
  | zero => intro v3 o h; cases h
  | succ k ih =>
    intro v3 o h hQ
    rw [ref02_Sorted_l1] at h
    refine WL.round ?_
    refine Wp.block ?_
    refine Wp.seq ?_
    refine Wp.region hΓ [] [] [] [0, 3, 4] [1003] (K' := [(0, .recs (α := List UInt8) [] E_string v0), (3, .row 1003), (4, .val (.int .i64 (-1)))]) (L' := [(1003, 9, [.rowc false (α := List UInt8) [] E_string v3])]) (ob := []) (by kernel_rfl) AllP.nil ?_
    refine To.thenN ?_
    refine Wp.seq ?_
    refine Wp.seq ?_
    refine Wp.region hΓ [] [] [] [0, 3, 4, 5] [1003] (K' := [(0, .recs (α := List UInt8) [] E_string v0), (3, .row 1003), (4, .val (.int .i64 (-1))), (5, .val (.int .i64 0))]) (L' := [(1003, 9, [.rowc false (α := List UInt8) [] E_string v3])]) (ob := []) (by kernel_rfl) AllP.nil ?_
    refine To.thenN ?_
    refine Wp.block ?_
    obtain ⟨o1, ho1, h⟩ := bind_of h
    refine Wp.keep (kk := [0, 3, 4, 5]) (kl := [1003]) (K' := [(0, .recs (α := List UInt8) [] E_string v0), (3, .row 1003), (4, .val (.int .i64 (-1))), (5, .val (.int .i64 0))]) (L' := [(1003, 9, [.rowc false (α := List UInt8) [] E_string v3])]) (by kernel_rfl) (by kernel_rfl) ?_
    refine Wp.loopL ?_
    refine ok_ref02_Sorted_l2 n v0 v3 n (-1) 0 o1 ho1 ?_
    refine To.blockX ?_
    refine To.thenN ?_
    refine Wp.seq ?_
    refine Wp.seq ?_
    refine Wp.region hΓ [] [] [] [0, 3, 4, 46] [1003] (K' := [(0, .recs (α := List UInt8) [] E_string v0), (3, .row 1003), (4, .val (.int .i64 o1)), (46, .val (.bool (decide (o1 < 0))))]) (L' := [(1003, 9, [.rowc false (α := List UInt8) [] E_string v3])]) (ob := []) (by kernel_rfl) AllP.nil ?_
    refine To.thenN ?_
    refine Wp.cond (b := (decide (o1 < 0))) (by kernel_rfl) (fun hb => ?_) (fun hb => ?_)
    · replace h := if_t hb h
      refine Wp.seq ?_
      refine Wp.region hΓ [] [] [] [2] [1003] (K' := [(2, .row 1003)]) (L' := [(1003, 9, [.rowc false (α := List UInt8) [] E_string v3])]) (ob := []) (by kernel_rfl) AllP.nil ?_
      refine To.thenN ?_
      refine Wp.ret ?_
      refine To.thenR ?_
      refine To.blockR ?_
      refine To.thenR ?_
      refine To.keep (kk := [2]) (kl := [1003]) (K' := [(2, .row 1003)]) (L' := [(1003, 9, [.rowc false (α := List UInt8) [] E_string v3])]) (by kernel_rfl) (by kernel_rfl) ?_
      refine To.pre (St.rename 1003 1002 (by decide) (K' := [(2, .row 1002)]) (L' := [(1002, 9, [.rowc false (α := List UInt8) [] E_string v3])]) (by kernel_rfl) (by kernel_rfl) (by kernel_rfl)) ?_
      refine To.keep (kk := [2]) (kl := [1002]) (K' := [(2, .row 1002)]) (L' := [(1002, 9, [.rowc false (α := List UInt8) [] E_string v3])]) (by kernel_rfl) (by kernel_rfl) ?_
      cases h
      exact hQ
    · replace h := if_f hb h
      refine Wp.skip ?_
      refine To.thenN ?_
      obtain ⟨hc2, h⟩ := chk_of h
      obtain ⟨hc3, h⟩ := chk_of h
      refine Wp.region hΓ [] [(5, .recs (α := List UInt8) [] E_string ([((v0)[Int.toNat o1]?.getD [])])), (6, .recs (α := List UInt8) [] E_string (v3 ++ ([((v0)[Int.toNat o1]?.getD [])] : List (List UInt8))))] [] [0, 3] [54] (K' := [(0, .recs (α := List UInt8) [] E_string v0), (3, .row 54)]) (L' := [(54, 9, [.rowc false (α := List UInt8) [] E_string (v3 ++ ([((v0)[Int.toNat o1]?.getD [])] : List (List UInt8)))])]) (ob := [(decide (0 ≤ o1 ∧ o1 < (List.length v0 : Int))) = true, (MkOb 1 [.str ((v0)[Int.toNat o1]?.getD [])] 1 (.recs (α := List UInt8) [] E_string ([((v0)[Int.toNat o1]?.getD [])])) ∧ GoodR (.recs (α := List UInt8) [] E_string ([((v0)[Int.toNat o1]?.getD [])]))), (decide ((List.length v3 + List.length ([((v0)[Int.toNat o1]?.getD [])] : List (List UInt8))) * (16 + 1) ≤ limit)) = true, (AppOb [] E_string v3 (List.flatMap E_string ([((v0)[Int.toNat o1]?.getD [])] : List (List UInt8))) (List.length ([((v0)[Int.toNat o1]?.getD [])] : List (List UInt8))) (.recs (α := List UInt8) [] E_string (v3 ++ ([((v0)[Int.toNat o1]?.getD [])] : List (List UInt8)))) ∧ GoodR (.recs (α := List UInt8) [] E_string (v3 ++ ([((v0)[Int.toNat o1]?.getD [])] : List (List UInt8)))))]) (by kernel_rfl) (AllP.cons hc2 (AllP.cons (mkOb (by kernel_rfl) rfl (by kernel_rfl) (good_E_string _)) (AllP.cons hc3 (AllP.cons (appOb rfl rfl (good_E_string _)) AllP.nil)))) ?_
      refine To.blockN ?_
      refine To.keep (kk := [0, 3]) (kl := [54]) (K' := [(0, .recs (α := List UInt8) [] E_string v0), (3, .row 54)]) (L' := [(54, 9, [.rowc false (α := List UInt8) [] E_string (v3 ++ ([((v0)[Int.toNat o1]?.getD [])] : List (List UInt8)))])]) (by kernel_rfl) (by kernel_rfl) ?_
      refine To.pre (St.rename 54 1003 (by decide) (K' := [(0, .recs (α := List UInt8) [] E_string v0), (3, .row 1003)]) (L' := [(1003, 9, [.rowc false (α := List UInt8) [] E_string (v3 ++ ([((v0)[Int.toNat o1]?.getD [])] : List (List UInt8)))])]) (by kernel_rfl) (by kernel_rfl) (by kernel_rfl)) ?_
      refine To.keep (kk := [0, 3]) (kl := [1003]) (K' := [(0, .recs (α := List UInt8) [] E_string v0), (3, .row 1003)]) (L' := [(1003, 9, [.rowc false (α := List UInt8) [] E_string (v3 ++ ([((v0)[Int.toNat o1]?.getD [])] : List (List UInt8)))])]) (by kernel_rfl) (by kernel_rfl) ?_
      refine To.again ?_
      exact ih (v3 ++ ([((v0)[Int.toNat o1]?.getD [])] : List (List UInt8))) _ h hQ
def ref02_Sorted (n : Nat) (a0 : List (List UInt8)) : Option ((List (List UInt8))) :=
  (ref02_Sorted_l1 n a0 n ([] : List (List UInt8))).bind fun o1 =>
  some o1
theorem ok_ref02_Sorted (n : Nat) (a0 : List (List UInt8)) (r : (List (List UInt8))) (h : ref02_Sorted n a0 = some r) : CallsX Try.prog 65 [.recs (α := List UInt8) [] E_string a0] (.recs (α := List UInt8) [] E_string r) := by
  unfold ref02_Sorted at h
  refine callsX_of (fn := Try.f65) (by kernel_rfl) rfl (by kernel_rfl) (Nat.le_of_ble_eq_true (by kernel_rfl)) fun F0 w0 _ => ?_
  refine Wp.keep (kk := [0]) (kl := []) (K' := [(0, .recs (α := List UInt8) [] E_string a0)]) (L' := []) (by kernel_rfl) (by kernel_rfl) ?_
  refine Wp.seq ?_
  refine Wp.region hΓ [] [] [] [0] [] (K' := [(0, .recs (α := List UInt8) [] E_string a0)]) (L' := []) (ob := []) (by kernel_rfl) AllP.nil ?_
  refine To.thenN ?_
  refine Wp.seq ?_
  refine Wp.region hΓ [] [(0, .recs (α := List UInt8) [] E_string [])] [] [0, 3] [6] (K' := [(0, .recs (α := List UInt8) [] E_string a0), (3, .row 6)]) (L' := [(6, 9, [.rowc false (α := List UInt8) [] E_string []])]) (ob := [(MkOb 1 [] 0 (.recs (α := List UInt8) [] E_string []) ∧ GoodR (.recs (α := List UInt8) [] E_string []))]) (by kernel_rfl) (AllP.cons (mkOb (by kernel_rfl) rfl (by kernel_rfl) (good_E_string _)) AllP.nil) ?_
  refine To.thenN ?_
  refine Wp.block ?_
  obtain ⟨o1, ho1, h⟩ := bind_of h
  refine Wp.keep (kk := [0, 3]) (kl := [6]) (K' := [(0, .recs (α := List UInt8) [] E_string a0), (3, .row 6)]) (L' := [(6, 9, [.rowc false (α := List UInt8) [] E_string []])]) (by kernel_rfl) (by kernel_rfl) ?_
  refine Wp.pre (St.rename 6 1003 (by decide) (K' := [(0, .recs (α := List UInt8) [] E_string a0), (3, .row 1003)]) (L' := [(1003, 9, [.rowc false (α := List UInt8) [] E_string []])]) (by kernel_rfl) (by kernel_rfl) (by kernel_rfl)) ?_
  refine Wp.keep (kk := [0, 3]) (kl := [1003]) (K' := [(0, .recs (α := List UInt8) [] E_string a0), (3, .row 1003)]) (L' := [(1003, 9, [.rowc false (α := List UInt8) [] E_string []])]) (by kernel_rfl) (by kernel_rfl) ?_
  refine Wp.loopL ?_
  refine ok_ref02_Sorted_l1 n a0 n ([] : List (List UInt8)) o1 ho1 ?_
  refine To.blockR ?_
  refine To.keep (kk := [2]) (kl := [1002]) (K' := [(2, .row 1002)]) (L' := [(1002, 9, [.rowc false (α := List UInt8) [] E_string o1])]) (by kernel_rfl) (by kernel_rfl) ?_
  refine To.pre (St.settle (ks := [1002]) (kk := [2]) (kl := [1002]) (K' := [(2, .row 1002)]) (L' := [(1002, 9, [.rowc true (α := List UInt8) [] E_string o1])]) (by kernel_rfl)) ?_
  refine To.pre (St.sealK [2] (K' := [(2, .recs (α := List UInt8) [] E_string o1)]) (by kernel_rfl)) ?_
  refine To.keep (kk := [2]) (kl := []) (K' := [(2, .recs (α := List UInt8) [] E_string o1)]) (L' := []) (by kernel_rfl) (by kernel_rfl) ?_
  cases h
  exact To.done hΓ (by kernel_rfl)
def ref02_In_l1 (n : Nat) (v0 : List (List UInt8)) (v1 : List UInt8) : Nat → Int → Option (Sum (Unit) (Bool))
  | 0, _ => none
  | k + 1, v5 => if (decide (v5 < (List.length v0 : Int))) = true then (if (decide (0 ≤ v5 ∧ v5 < (List.length v0 : Int))) = true then (if (((v0)[Int.toNat v5]?.getD []) == v1) = true then (some (.inr true))
  else (ref02_In_l1 n v0 v1 k (IntKind.wrap .i64 (v5 + 1)))) else none)
  else (some (.inl ()))
theorem ok_ref02_In_l1 (n : Nat) (v0 : List (List UInt8)) (v1 : List UInt8) {F0 : Fz} {w0 : Pt Try.prog} {Q : Exit → Act → World → Prop} (k : Nat) : ∀ (v5 : Int) (o : Sum (Unit) (Bool)), ref02_In_l1 n v0 v1 k v5 = some o → (Sum.elim (fun s => To 18 F0 w0 [] [] (.exit 0) Q) (fun s => To 18 F0 w0 [(4, .val (.bool s))] [] .ret Q)) o → WL Try.prog 18 F0 w0 [(0, .recs (α := List UInt8) [] E_string v0), (1, .str v1), (5, .val (.int .i64 v5))] [] (cI (cI (cB (cA (cB (cF Try.f37)))))) Q := by
  induction k with
  | zero => intro v5 o h; cases h
  | succ k ih =>
    intro v5 o h hQ
    rw [ref02_In_l1] at h
    refine WL.round ?_
    refine Wp.seq ?_
    refine Wp.seq ?_
    refine Wp.region hΓ [] [] [] [0, 1, 5, 9] [] (K' := [(0, .recs (α := List UInt8) [] E_string v0), (1, .str v1), (5, .val (.int .i64 v5)), (9, .val (.bool (decide (v5 < (List.length v0 : Int)))))]) (L' := []) (ob := []) (by kernel_rfl) AllP.nil ?_
    refine To.thenN ?_
    refine Wp.cond (b := (decide (v5 < (List.length v0 : Int)))) (by kernel_rfl) (fun hb => ?_) (fun hb => ?_)
    · replace h := if_t hb h
      refine Wp.skip ?_
      refine To.thenN ?_
      refine Wp.seq ?_
      refine Wp.block ?_
      refine Wp.seq ?_
      obtain ⟨hc1, h⟩ := chk_of h
      refine Wp.region hΓ [] [] [] [0, 1, 5, 17] [] (K' := [(0, .recs (α := List UInt8) [] E_string v0), (1, .str v1), (5, .val (.int .i64 v5)), (17, .val (.bool (((v0)[Int.toNat v5]?.getD []) == v1)))]) (L' := []) (ob := [(decide (0 ≤ v5 ∧ v5 < (List.length v0 : Int))) = true]) (by kernel_rfl) (AllP.cons hc1 AllP.nil) ?_
      refine To.thenN ?_
      refine Wp.cond (b := (((v0)[Int.toNat v5]?.getD []) == v1)) (by kernel_rfl) (fun hb => ?_) (fun hb => ?_)
      · replace h := if_t hb h
        refine Wp.seq ?_
        refine Wp.region hΓ [] [] [] [4] [] (K' := [(4, .val (.bool true))]) (L' := []) (ob := []) (by kernel_rfl) AllP.nil ?_
        refine To.thenN ?_
        refine Wp.ret ?_
        refine To.blockR ?_
        refine To.thenR ?_
        refine To.thenR ?_
        refine To.keep (kk := [4]) (kl := []) (K' := [(4, .val (.bool true))]) (L' := []) (by kernel_rfl) (by kernel_rfl) ?_
        cases h
        exact hQ
      · replace h := if_f hb h
        refine Wp.skip ?_
        refine To.blockN ?_
        refine To.thenN ?_
        refine Wp.region hΓ [] [] [] [0, 1, 5] [] (K' := [(0, .recs (α := List UInt8) [] E_string v0), (1, .str v1), (5, .val (.int .i64 (IntKind.wrap .i64 (v5 + 1))))]) (L' := []) (ob := []) (by kernel_rfl) AllP.nil ?_
        refine To.keep (kk := [0, 1, 5]) (kl := []) (K' := [(0, .recs (α := List UInt8) [] E_string v0), (1, .str v1), (5, .val (.int .i64 (IntKind.wrap .i64 (v5 + 1))))]) (L' := []) (by kernel_rfl) (by kernel_rfl) ?_
        refine To.again ?_
        exact ih (IntKind.wrap .i64 (v5 + 1)) _ h hQ
    · replace h := if_f hb h
      refine Wp.exit ?_
      refine To.thenX ?_
      refine To.thenX ?_
      refine To.keep (kk := []) (kl := []) (K' := []) (L' := []) (by kernel_rfl) (by kernel_rfl) ?_
      cases h
      exact hQ
def ref02_In (n : Nat) (a0 : List (List UInt8)) (a1 : List UInt8) : Option (Bool) :=
  (ref02_In_l1 n a0 a1 n 0).bind fun o1 =>
  (Sum.elim (fun o1 => some false) (fun o1 => some o1)) o1
theorem ok_ref02_In (n : Nat) (a0 : List (List UInt8)) (a1 : List UInt8) (r : Bool) (h : ref02_In n a0 a1 = some r) : CallsX Try.prog 37 [.recs (α := List UInt8) [] E_string a0, .str a1] (.val (.bool r)) := by
  unfold ref02_In at h
  refine callsX_of (fn := Try.f37) (by kernel_rfl) rfl (by kernel_rfl) (Nat.le_of_ble_eq_true (by kernel_rfl)) fun F0 w0 _ => ?_
  refine Wp.keep (kk := [0, 1]) (kl := []) (K' := [(0, .recs (α := List UInt8) [] E_string a0), (1, .str a1)]) (L' := []) (by kernel_rfl) (by kernel_rfl) ?_
  refine Wp.seq ?_
  refine Wp.region hΓ [] [] [] [0, 1] [] (K' := [(0, .recs (α := List UInt8) [] E_string a0), (1, .str a1)]) (L' := []) (ob := []) (by kernel_rfl) AllP.nil ?_
  refine To.thenN ?_
  refine Wp.seq ?_
  refine Wp.seq ?_
  refine Wp.region hΓ [] [] [] [0, 1, 5] [] (K' := [(0, .recs (α := List UInt8) [] E_string a0), (1, .str a1), (5, .val (.int .i64 0))]) (L' := []) (ob := []) (by kernel_rfl) AllP.nil ?_
  refine To.thenN ?_
  refine Wp.block ?_
  obtain ⟨o1, ho1, h⟩ := bind_of h
  refine Wp.keep (kk := [0, 1, 5]) (kl := []) (K' := [(0, .recs (α := List UInt8) [] E_string a0), (1, .str a1), (5, .val (.int .i64 0))]) (L' := []) (by kernel_rfl) (by kernel_rfl) ?_
  refine Wp.loopL ?_
  refine ok_ref02_In_l1 n a0 a1 n 0 o1 ho1 ?_
  rcases o1 with o1 | o1
  · replace h := sum_l h
    refine To.blockX ?_
    refine To.thenN ?_
    refine Wp.seq ?_
    refine Wp.region hΓ [] [] [] [4] [] (K' := [(4, .val (.bool false))]) (L' := []) (ob := []) (by kernel_rfl) AllP.nil ?_
    refine To.thenN ?_
    refine Wp.ret ?_
    refine To.keep (kk := [4]) (kl := []) (K' := [(4, .val (.bool false))]) (L' := []) (by kernel_rfl) (by kernel_rfl) ?_
    cases h
    exact To.done hΓ (by kernel_rfl)
  · replace h := sum_r h
    refine To.blockR ?_
    refine To.thenR ?_
    refine To.keep (kk := [4]) (kl := []) (K' := [(4, .val (.bool o1))]) (L' := []) (by kernel_rfl) (by kernel_rfl) ?_
    cases h
    exact To.done hΓ (by kernel_rfl)
def ref02_Without_j2 (n : Nat) (v1 : List (List UInt8)) (v5 : List (List UInt8)) (v6 : List (List UInt8)) (v7 : Int) : Option ((List (List UInt8))) :=
  if (decide (0 ≤ v7 ∧ v7 < (List.length v6 : Int))) = true then ((ref02_In n v1 ((v6)[Int.toNat v7]?.getD [])).bind fun r2 =>
  if (!r2) = true then (if (decide (0 ≤ v7 ∧ v7 < (List.length v6 : Int))) = true then (if (decide ((List.length v5 + List.length ([((v6)[Int.toNat v7]?.getD [])] : List (List UInt8))) * (16 + 1) ≤ limit)) = true then (some (v5 ++ ([((v6)[Int.toNat v7]?.getD [])] : List (List UInt8)))) else none) else none)
  else some v5) else none
theorem ok_ref02_Without_j2 (n : Nat) (v1 : List (List UInt8)) (v5 : List (List UInt8)) (v6 : List (List UInt8)) (v7 : Int) (o : (List (List UInt8))) (h : ref02_Without_j2 n v1 v5 v6 v7 = some o) {F0 : Fz} {w0 : Pt Try.prog} {Q : Exit → Act → World → Prop} (hQ : To 32 F0 w0 [(1, .recs (α := List UInt8) [] E_string v1), (5, .row 1005), (6, .recs (α := List UInt8) [] E_string v6), (7, .val (.int .i64 v7))] [(1005, 9, [.rowc false (α := List UInt8) [] E_string o])] .normal Q) : Wp Try.prog 32 F0 w0 [(1, .recs (α := List UInt8) [] E_string v1), (5, .row 1005), (6, .recs (α := List UInt8) [] E_string v6), (7, .val (.int .i64 v7))] [(1005, 9, [.rowc false (α := List UInt8) [] E_string v5])] (cA (cB (cI (cI (cB (cA (cB (cB (cB (cF Try.f36)))))))))) Q := by
  unfold ref02_Without_j2 at h
  refine Wp.block ?_
  refine Wp.seq ?_
  obtain ⟨hc5, h⟩ := chk_of h
  obtain ⟨r2, hr2, h⟩ := bind_of h
  refine Wp.region hΓ [] [(5, .val (.bool r2))] [] [1, 5, 6, 7, 23] [1005] (K' := [(1, .recs (α := List UInt8) [] E_string v1), (5, .row 1005), (6, .recs (α := List UInt8) [] E_string v6), (7, .val (.int .i64 v7)), (23, .val (.bool (!r2)))]) (L' := [(1005, 9, [.rowc false (α := List UInt8) [] E_string v5])]) (ob := [(decide (0 ≤ v7 ∧ v7 < (List.length v6 : Int))) = true, (true = true → CX Try.prog 37 [.recs (α := List UInt8) [] E_string v1, .str ((v6)[Int.toNat v7]?.getD [])] (.val (.bool r2)))]) (by kernel_rfl) (AllP.cons hc5 (AllP.cons (fun _ => cx (ok_ref02_In n v1 ((v6)[Int.toNat v7]?.getD []) _ hr2)) AllP.nil)) ?_
  refine To.thenN ?_
  refine Wp.cond (b := (!r2)) (by kernel_rfl) (fun hb => ?_) (fun hb => ?_)
  · replace h := if_t hb h
    obtain ⟨hc3, h⟩ := chk_of h
    obtain ⟨hc4, h⟩ := chk_of h
    refine Wp.region hΓ [] [(5, .recs (α := List UInt8) [] E_string ([((v6)[Int.toNat v7]?.getD [])])), (6, .recs (α := List UInt8) [] E_string (v5 ++ ([((v6)[Int.toNat v7]?.getD [])] : List (List UInt8))))] [] [1, 5, 6, 7] [30] (K' := [(1, .recs (α := List UInt8) [] E_string v1), (5, .row 30), (6, .recs (α := List UInt8) [] E_string v6), (7, .val (.int .i64 v7))]) (L' := [(30, 9, [.rowc false (α := List UInt8) [] E_string (v5 ++ ([((v6)[Int.toNat v7]?.getD [])] : List (List UInt8)))])]) (ob := [(decide (0 ≤ v7 ∧ v7 < (List.length v6 : Int))) = true, (MkOb 1 [.str ((v6)[Int.toNat v7]?.getD [])] 1 (.recs (α := List UInt8) [] E_string ([((v6)[Int.toNat v7]?.getD [])])) ∧ GoodR (.recs (α := List UInt8) [] E_string ([((v6)[Int.toNat v7]?.getD [])]))), (decide ((List.length v5 + List.length ([((v6)[Int.toNat v7]?.getD [])] : List (List UInt8))) * (16 + 1) ≤ limit)) = true, (AppOb [] E_string v5 (List.flatMap E_string ([((v6)[Int.toNat v7]?.getD [])] : List (List UInt8))) (List.length ([((v6)[Int.toNat v7]?.getD [])] : List (List UInt8))) (.recs (α := List UInt8) [] E_string (v5 ++ ([((v6)[Int.toNat v7]?.getD [])] : List (List UInt8)))) ∧ GoodR (.recs (α := List UInt8) [] E_string (v5 ++ ([((v6)[Int.toNat v7]?.getD [])] : List (List UInt8)))))]) (by kernel_rfl) (AllP.cons hc3 (AllP.cons (mkOb (by kernel_rfl) rfl (by kernel_rfl) (good_E_string _)) (AllP.cons hc4 (AllP.cons (appOb rfl rfl (good_E_string _)) AllP.nil)))) ?_
    refine To.blockN ?_
    refine To.keep (kk := [1, 5, 6, 7]) (kl := [30]) (K' := [(1, .recs (α := List UInt8) [] E_string v1), (5, .row 30), (6, .recs (α := List UInt8) [] E_string v6), (7, .val (.int .i64 v7))]) (L' := [(30, 9, [.rowc false (α := List UInt8) [] E_string (v5 ++ ([((v6)[Int.toNat v7]?.getD [])] : List (List UInt8)))])]) (by kernel_rfl) (by kernel_rfl) ?_
    refine To.pre (St.rename 30 1005 (by decide) (K' := [(1, .recs (α := List UInt8) [] E_string v1), (5, .row 1005), (6, .recs (α := List UInt8) [] E_string v6), (7, .val (.int .i64 v7))]) (L' := [(1005, 9, [.rowc false (α := List UInt8) [] E_string (v5 ++ ([((v6)[Int.toNat v7]?.getD [])] : List (List UInt8)))])]) (by kernel_rfl) (by kernel_rfl) (by kernel_rfl)) ?_
    refine To.keep (kk := [1, 5, 6, 7]) (kl := [1005]) (K' := [(1, .recs (α := List UInt8) [] E_string v1), (5, .row 1005), (6, .recs (α := List UInt8) [] E_string v6), (7, .val (.int .i64 v7))]) (L' := [(1005, 9, [.rowc false (α := List UInt8) [] E_string (v5 ++ ([((v6)[Int.toNat v7]?.getD [])] : List (List UInt8)))])]) (by kernel_rfl) (by kernel_rfl) ?_
    cases h
    exact hQ
  · replace h := if_f hb h
    refine Wp.skip ?_
    refine To.blockN ?_
    refine To.keep (kk := [1, 5, 6, 7]) (kl := [1005]) (K' := [(1, .recs (α := List UInt8) [] E_string v1), (5, .row 1005), (6, .recs (α := List UInt8) [] E_string v6), (7, .val (.int .i64 v7))]) (L' := [(1005, 9, [.rowc false (α := List UInt8) [] E_string v5])]) (by kernel_rfl) (by kernel_rfl) ?_
    cases h
    exact hQ
def ref02_Without_l1 (n : Nat) (v1 : List (List UInt8)) (v6 : List (List UInt8)) : Nat → (List (List UInt8)) → Int → Option ((List (List UInt8)))
  | 0, _, _ => none
  | k + 1, v5, v7 => if (decide (v7 < (List.length v6 : Int))) = true then ((ref02_Without_j2 n v1 v5 v6 v7).bind fun o2 =>
  ref02_Without_l1 n v1 v6 k o2 (IntKind.wrap .i64 (v7 + 1)))
  else some v5
theorem ok_ref02_Without_l1 (n : Nat) (v1 : List (List UInt8)) (v6 : List (List UInt8)) {F0 : Fz} {w0 : Pt Try.prog} {Q : Exit → Act → World → Prop} (k : Nat) : ∀ (v5 : List (List UInt8)) (v7 : Int) (o : (List (List UInt8))), ref02_Without_l1 n v1 v6 k v5 v7 = some o → To 32 F0 w0 [(5, .row 1005)] [(1005, 9, [.rowc false (α := List UInt8) [] E_string o])] (.exit 0) Q → WL Try.prog 32 F0 w0 [(1, .recs (α := List UInt8) [] E_string v1), (5, .row 1005), (6, .recs (α := List UInt8) [] E_string v6), (7, .val (.int .i64 v7))] [(1005, 9, [.rowc false (α := List UInt8) [] E_string v5])] (cI (cI (cB (cA (cB (cB (cB (cF Try.f36)))))))) Q := by
  induction k with
  | zero => intro v5 v7 o h; cases h
  | succ k ih =>
    intro v5 v7 o h hQ
    rw [ref02_Without_l1] at h
    refine WL.round ?_
    refine Wp.seq ?_
    refine Wp.seq ?_
    refine Wp.region hΓ [] [] [] [1, 5, 6, 7, 14] [1005] (K' := [(1, .recs (α := List UInt8) [] E_string v1), (5, .row 1005), (6, .recs (α := List UInt8) [] E_string v6), (7, .val (.int .i64 v7)), (14, .val (.bool (decide (v7 < (List.length v6 : Int)))))]) (L' := [(1005, 9, [.rowc false (α := List UInt8) [] E_string v5])]) (ob := []) (by kernel_rfl) AllP.nil ?_
    refine To.thenN ?_
    refine Wp.cond (b := (decide (v7 < (List.length v6 : Int)))) (by kernel_rfl) (fun hb => ?_) (fun hb => ?_)
    · replace h := if_t hb h
      refine Wp.skip ?_
      refine To.thenN ?_
      refine Wp.seq ?_
      obtain ⟨o2, ho2, h⟩ := bind_of h
      refine Wp.keep (kk := [1, 5, 6, 7]) (kl := [1005]) (K' := [(1, .recs (α := List UInt8) [] E_string v1), (5, .row 1005), (6, .recs (α := List UInt8) [] E_string v6), (7, .val (.int .i64 v7))]) (L' := [(1005, 9, [.rowc false (α := List UInt8) [] E_string v5])]) (by kernel_rfl) (by kernel_rfl) ?_
      refine ok_ref02_Without_j2 n v1 v5 v6 v7 o2 ho2 ?_
      refine To.thenN ?_
      refine Wp.region hΓ [] [] [] [1, 5, 6, 7] [1005] (K' := [(1, .recs (α := List UInt8) [] E_string v1), (5, .row 1005), (6, .recs (α := List UInt8) [] E_string v6), (7, .val (.int .i64 (IntKind.wrap .i64 (v7 + 1))))]) (L' := [(1005, 9, [.rowc false (α := List UInt8) [] E_string o2])]) (ob := []) (by kernel_rfl) AllP.nil ?_
      refine To.keep (kk := [1, 5, 6, 7]) (kl := [1005]) (K' := [(1, .recs (α := List UInt8) [] E_string v1), (5, .row 1005), (6, .recs (α := List UInt8) [] E_string v6), (7, .val (.int .i64 (IntKind.wrap .i64 (v7 + 1))))]) (L' := [(1005, 9, [.rowc false (α := List UInt8) [] E_string o2])]) (by kernel_rfl) (by kernel_rfl) ?_
      refine To.again ?_
      exact ih o2 (IntKind.wrap .i64 (v7 + 1)) _ h hQ
    · replace h := if_f hb h
      refine Wp.exit ?_
      refine To.thenX ?_
      refine To.thenX ?_
      refine To.keep (kk := [5]) (kl := [1005]) (K' := [(5, .row 1005)]) (L' := [(1005, 9, [.rowc false (α := List UInt8) [] E_string v5])]) (by kernel_rfl) (by kernel_rfl) ?_
      cases h
      exact hQ
def ref02_Without (n : Nat) (a0 : List (List UInt8)) (a1 : List (List UInt8)) : Option ((List (List UInt8))) :=
  (ref02_Sorted n a0).bind fun r1 =>
  (ref02_Without_l1 n a1 r1 n ([] : List (List UInt8)) 0).bind fun o2 =>
  some o2
theorem ok_ref02_Without (n : Nat) (a0 : List (List UInt8)) (a1 : List (List UInt8)) (r : (List (List UInt8))) (h : ref02_Without n a0 a1 = some r) : CallsX Try.prog 36 [.recs (α := List UInt8) [] E_string a0, .recs (α := List UInt8) [] E_string a1] (.recs (α := List UInt8) [] E_string r) := by
  unfold ref02_Without at h
  refine callsX_of (fn := Try.f36) (by kernel_rfl) rfl (by kernel_rfl) (Nat.le_of_ble_eq_true (by kernel_rfl)) fun F0 w0 _ => ?_
  refine Wp.keep (kk := [0, 1]) (kl := []) (K' := [(0, .recs (α := List UInt8) [] E_string a0), (1, .recs (α := List UInt8) [] E_string a1)]) (L' := []) (by kernel_rfl) (by kernel_rfl) ?_
  refine Wp.seq ?_
  refine Wp.region hΓ [] [] [] [0, 1] [] (K' := [(0, .recs (α := List UInt8) [] E_string a0), (1, .recs (α := List UInt8) [] E_string a1)]) (L' := []) (ob := []) (by kernel_rfl) AllP.nil ?_
  refine To.thenN ?_
  refine Wp.seq ?_
  refine Wp.region hΓ [] [(0, .recs (α := List UInt8) [] E_string [])] [] [0, 1, 5] [8] (K' := [(0, .recs (α := List UInt8) [] E_string a0), (1, .recs (α := List UInt8) [] E_string a1), (5, .row 8)]) (L' := [(8, 9, [.rowc false (α := List UInt8) [] E_string []])]) (ob := [(MkOb 1 [] 0 (.recs (α := List UInt8) [] E_string []) ∧ GoodR (.recs (α := List UInt8) [] E_string []))]) (by kernel_rfl) (AllP.cons (mkOb (by kernel_rfl) rfl (by kernel_rfl) (good_E_string _)) AllP.nil) ?_
  refine To.thenN ?_
  refine Wp.seq ?_
  obtain ⟨r1, hr1, h⟩ := bind_of h
  refine Wp.region hΓ [] [(1, .recs (α := List UInt8) [] E_string r1)] [] [1, 5, 6] [8] (K' := [(1, .recs (α := List UInt8) [] E_string a1), (5, .row 8), (6, .recs (α := List UInt8) [] E_string r1)]) (L' := [(8, 9, [.rowc false (α := List UInt8) [] E_string []])]) (ob := [(true = true → CX Try.prog 65 [.recs (α := List UInt8) [] E_string a0] (.recs (α := List UInt8) [] E_string r1))]) (by kernel_rfl) (AllP.cons (fun _ => cx (ok_ref02_Sorted n a0 _ hr1)) AllP.nil) ?_
  refine To.thenN ?_
  refine Wp.seq ?_
  refine Wp.seq ?_
  refine Wp.region hΓ [] [] [] [1, 5, 6, 7] [8] (K' := [(1, .recs (α := List UInt8) [] E_string a1), (5, .row 8), (6, .recs (α := List UInt8) [] E_string r1), (7, .val (.int .i64 0))]) (L' := [(8, 9, [.rowc false (α := List UInt8) [] E_string []])]) (ob := []) (by kernel_rfl) AllP.nil ?_
  refine To.thenN ?_
  refine Wp.block ?_
  obtain ⟨o2, ho2, h⟩ := bind_of h
  refine Wp.keep (kk := [1, 5, 6, 7]) (kl := [8]) (K' := [(1, .recs (α := List UInt8) [] E_string a1), (5, .row 8), (6, .recs (α := List UInt8) [] E_string r1), (7, .val (.int .i64 0))]) (L' := [(8, 9, [.rowc false (α := List UInt8) [] E_string []])]) (by kernel_rfl) (by kernel_rfl) ?_
  refine Wp.pre (St.rename 8 1005 (by decide) (K' := [(1, .recs (α := List UInt8) [] E_string a1), (5, .row 1005), (6, .recs (α := List UInt8) [] E_string r1), (7, .val (.int .i64 0))]) (L' := [(1005, 9, [.rowc false (α := List UInt8) [] E_string []])]) (by kernel_rfl) (by kernel_rfl) (by kernel_rfl)) ?_
  refine Wp.keep (kk := [1, 5, 6, 7]) (kl := [1005]) (K' := [(1, .recs (α := List UInt8) [] E_string a1), (5, .row 1005), (6, .recs (α := List UInt8) [] E_string r1), (7, .val (.int .i64 0))]) (L' := [(1005, 9, [.rowc false (α := List UInt8) [] E_string []])]) (by kernel_rfl) (by kernel_rfl) ?_
  refine Wp.loopL ?_
  refine ok_ref02_Without_l1 n a1 r1 n ([] : List (List UInt8)) 0 o2 ho2 ?_
  refine To.blockX ?_
  refine To.thenN ?_
  refine Wp.seq ?_
  refine Wp.region hΓ [] [] [] [4] [1005] (K' := [(4, .row 1005)]) (L' := [(1005, 9, [.rowc false (α := List UInt8) [] E_string o2])]) (ob := []) (by kernel_rfl) AllP.nil ?_
  refine To.thenN ?_
  refine Wp.ret ?_
  refine To.keep (kk := [4]) (kl := [1005]) (K' := [(4, .row 1005)]) (L' := [(1005, 9, [.rowc false (α := List UInt8) [] E_string o2])]) (by kernel_rfl) (by kernel_rfl) ?_
  refine To.pre (St.settle (ks := [1005]) (kk := [4]) (kl := [1005]) (K' := [(4, .row 1005)]) (L' := [(1005, 9, [.rowc true (α := List UInt8) [] E_string o2])]) (by kernel_rfl)) ?_
  refine To.pre (St.sealK [4] (K' := [(4, .recs (α := List UInt8) [] E_string o2)]) (by kernel_rfl)) ?_
  refine To.keep (kk := [4]) (kl := []) (K' := [(4, .recs (α := List UInt8) [] E_string o2)]) (L' := []) (by kernel_rfl) (by kernel_rfl) ?_
  cases h
  exact To.done hΓ (by kernel_rfl)
def law33_StoreHolds_j3 (n : Nat) (v0 : List (S_api_Call)) (v4 : Int) (v5 : Int) (v9 : Int) (v11 : List (S_api_Container)) (v82 : Bool) (b22 : S_store_Store) : Option (Sum (Int) (Bool)) :=
  if v82 = true then (if (decide (v9 ≤ v4)) = true then (some (.inr false))
  else (some (.inl v9)))
  else (some (.inl v4))
theorem ok_law33_StoreHolds_j3 (n : Nat) (v0 : List (S_api_Call)) (v4 : Int) (v5 : Int) (v9 : Int) (v11 : List (S_api_Container)) (v82 : Bool) (b22 : S_store_Store) (o : Sum (Int) (Bool)) (h : law33_StoreHolds_j3 n v0 v4 v5 v9 v11 v82 b22 = some o) {F0 : Fz} {w0 : Pt Try.prog} {Q : Exit → Act → World → Prop} (hQ : (Sum.elim (fun s => To 176 F0 w0 [(0, .recs (α := S_api_Call) (S_api_Call.mk 0 [] 0 Z_api_Spec) E_api_Call v0), (3, .own 22 0), (4, .val (.int .i64 s)), (5, .val (.int .i64 v5)), (11, .recs (α := S_api_Container) Z_api_Container E_api_Container v11)] [(22, 100, [.mp 700882, .mp 700883, .mp 700884, .val (.int .i64 b22.f_last)]), (700882, 96, [.mapc (some .i64) true (α := S_life_Box) Z_life_Box E_life_Box b22.f_boxes]), (700883, 98, [.mapc none true (α := S_api_Kept) (S_api_Kept.mk [] []) E_api_Kept b22.f_nets]), (700884, 98, [.mapc none true (α := S_api_Kept) (S_api_Kept.mk [] []) E_api_Kept b22.f_vols])] .normal Q) (fun s => To 176 F0 w0 [(2, .val (.bool s))] [] .ret Q)) o) : Wp Try.prog 176 F0 w0 [(0, .recs (α := S_api_Call) (S_api_Call.mk 0 [] 0 Z_api_Spec) E_api_Call v0), (3, .own 22 0), (4, .val (.int .i64 v4)), (5, .val (.int .i64 v5)), (9, .val (.int .i64 v9)), (11, .recs (α := S_api_Container) Z_api_Container E_api_Container v11), (82, .val (.bool v82))] [(22, 100, [.mp 700882, .mp 700883, .mp 700884, .val (.int .i64 b22.f_last)]), (700882, 96, [.mapc (some .i64) true (α := S_life_Box) Z_life_Box E_life_Box b22.f_boxes]), (700883, 98, [.mapc none true (α := S_api_Kept) (S_api_Kept.mk [] []) E_api_Kept b22.f_nets]), (700884, 98, [.mapc none true (α := S_api_Kept) (S_api_Kept.mk [] []) E_api_Kept b22.f_vols])] (cB (cA (cB (cB (cB (cB (cI (cA (cB (cI (cI (cB (cA (cB (cB (cB (cB (cF Try.f5)))))))))))))))))) Q := by
  unfold law33_StoreHolds_j3 at h
  refine Wp.cond (b := v82) (by kernel_rfl) (fun hb => ?_) (fun hb => ?_)
  · replace h := if_t hb h
    refine Wp.seq ?_
    refine Wp.seq ?_
    refine Wp.region hΓ [] [] [] [0, 3, 5, 9, 11, 85] [22, 700882, 700883, 700884] (K' := [(0, .recs (α := S_api_Call) (S_api_Call.mk 0 [] 0 Z_api_Spec) E_api_Call v0), (3, .own 22 0), (5, .val (.int .i64 v5)), (9, .val (.int .i64 v9)), (11, .recs (α := S_api_Container) Z_api_Container E_api_Container v11), (85, .val (.bool (decide (v9 ≤ v4))))]) (L' := [(22, 100, [.mp 700882, .mp 700883, .mp 700884, .val (.int .i64 b22.f_last)]), (700882, 96, [.mapc (some .i64) true (α := S_life_Box) Z_life_Box E_life_Box b22.f_boxes]), (700883, 98, [.mapc none true (α := S_api_Kept) (S_api_Kept.mk [] []) E_api_Kept b22.f_nets]), (700884, 98, [.mapc none true (α := S_api_Kept) (S_api_Kept.mk [] []) E_api_Kept b22.f_vols])]) (ob := []) (by kernel_rfl) AllP.nil ?_
    refine To.thenN ?_
    refine Wp.cond (b := (decide (v9 ≤ v4))) (by kernel_rfl) (fun hb => ?_) (fun hb => ?_)
    · replace h := if_t hb h
      refine Wp.seq ?_
      refine Wp.region hΓ [] [] [] [2] [] (K' := [(2, .val (.bool false))]) (L' := []) (ob := []) (by kernel_rfl) AllP.nil ?_
      refine To.thenN ?_
      refine Wp.ret ?_
      refine To.thenR ?_
      refine To.keep (kk := [2]) (kl := []) (K' := [(2, .val (.bool false))]) (L' := []) (by kernel_rfl) (by kernel_rfl) ?_
      cases h
      exact hQ
    · replace h := if_f hb h
      refine Wp.skip ?_
      refine To.thenN ?_
      refine Wp.region hΓ [] [] [] [0, 3, 4, 5, 11] [22, 700882, 700883, 700884] (K' := [(0, .recs (α := S_api_Call) (S_api_Call.mk 0 [] 0 Z_api_Spec) E_api_Call v0), (3, .own 22 0), (4, .val (.int .i64 v9)), (5, .val (.int .i64 v5)), (11, .recs (α := S_api_Container) Z_api_Container E_api_Container v11)]) (L' := [(22, 100, [.mp 700882, .mp 700883, .mp 700884, .val (.int .i64 b22.f_last)]), (700882, 96, [.mapc (some .i64) true (α := S_life_Box) Z_life_Box E_life_Box b22.f_boxes]), (700883, 98, [.mapc none true (α := S_api_Kept) (S_api_Kept.mk [] []) E_api_Kept b22.f_nets]), (700884, 98, [.mapc none true (α := S_api_Kept) (S_api_Kept.mk [] []) E_api_Kept b22.f_vols])]) (ob := []) (by kernel_rfl) AllP.nil ?_
      refine To.keep (kk := [0, 3, 4, 5, 11]) (kl := [22, 700882, 700883, 700884]) (K' := [(0, .recs (α := S_api_Call) (S_api_Call.mk 0 [] 0 Z_api_Spec) E_api_Call v0), (3, .own 22 0), (4, .val (.int .i64 v9)), (5, .val (.int .i64 v5)), (11, .recs (α := S_api_Container) Z_api_Container E_api_Container v11)]) (L' := [(22, 100, [.mp 700882, .mp 700883, .mp 700884, .val (.int .i64 b22.f_last)]), (700882, 96, [.mapc (some .i64) true (α := S_life_Box) Z_life_Box E_life_Box b22.f_boxes]), (700883, 98, [.mapc none true (α := S_api_Kept) (S_api_Kept.mk [] []) E_api_Kept b22.f_nets]), (700884, 98, [.mapc none true (α := S_api_Kept) (S_api_Kept.mk [] []) E_api_Kept b22.f_vols])]) (by kernel_rfl) (by kernel_rfl) ?_
      cases h
      exact hQ
  · replace h := if_f hb h
    refine Wp.skip ?_
    refine To.keep (kk := [0, 3, 4, 5, 11]) (kl := [22, 700882, 700883, 700884]) (K' := [(0, .recs (α := S_api_Call) (S_api_Call.mk 0 [] 0 Z_api_Spec) E_api_Call v0), (3, .own 22 0), (4, .val (.int .i64 v4)), (5, .val (.int .i64 v5)), (11, .recs (α := S_api_Container) Z_api_Container E_api_Container v11)]) (L' := [(22, 100, [.mp 700882, .mp 700883, .mp 700884, .val (.int .i64 b22.f_last)]), (700882, 96, [.mapc (some .i64) true (α := S_life_Box) Z_life_Box E_life_Box b22.f_boxes]), (700883, 98, [.mapc none true (α := S_api_Kept) (S_api_Kept.mk [] []) E_api_Kept b22.f_nets]), (700884, 98, [.mapc none true (α := S_api_Kept) (S_api_Kept.mk [] []) E_api_Kept b22.f_vols])]) (by kernel_rfl) (by kernel_rfl) ?_
    cases h
    exact hQ
def law33_StoreHolds_l4 (n : Nat) (v0 : List (S_api_Call)) (v4 : Int) (v5 : Int) (v11 : List (S_api_Container)) (v12 : List (List UInt8)) (v14 : List (List UInt8)) : Nat → (List (List UInt8)) → Int → S_store_Store → Option ((List (List UInt8)) × S_store_Store)
  | 0, _, _, _ => none
  | k + 1, v13, v15, b22 => (store_Store_Nets__o0 n b22).bind fun r16 =>
  if (decide (v15 < (List.length r16.1 : Int))) = true then ((store_Store_Nets__o0 n r16.2).bind fun r17 =>
  if (decide (0 ≤ v15 ∧ v15 < (List.length r17.1 : Int))) = true then (if (decide ((List.length v13 + List.length ([((r17.1)[Int.toNat v15]?.getD (S_api_Kept.mk [] [])).f_Name] : List (List UInt8))) * (16 + 1) ≤ limit)) = true then (law33_StoreHolds_l4 n v0 v4 v5 v11 v12 v14 k (v13 ++ ([((r17.1)[Int.toNat v15]?.getD (S_api_Kept.mk [] [])).f_Name] : List (List UInt8))) (IntKind.wrap .i64 (v15 + 1)) r17.2) else none) else none)
  else (some (v13, r16.2))
theorem ok_law33_StoreHolds_l4 (n : Nat) (v0 : List (S_api_Call)) (v4 : Int) (v5 : Int) (v11 : List (S_api_Container)) (v12 : List (List UInt8)) (v14 : List (List UInt8)) {F0 : Fz} {w0 : Pt Try.prog} {Q : Exit → Act → World → Prop} (k : Nat) : ∀ (v13 : List (List UInt8)) (v15 : Int) (b22 : S_store_Store) (o : (List (List UInt8)) × S_store_Store), law33_StoreHolds_l4 n v0 v4 v5 v11 v12 v14 k v13 v15 b22 = some o → To 176 F0 w0 [(0, .recs (α := S_api_Call) (S_api_Call.mk 0 [] 0 Z_api_Spec) E_api_Call v0), (3, .own 22 0), (4, .val (.int .i64 v4)), (5, .val (.int .i64 v5)), (11, .recs (α := S_api_Container) Z_api_Container E_api_Container v11), (12, .row 1012), (13, .row 1013), (14, .row 1014)] [(22, 100, [.mp 700882, .mp 700883, .mp 700884, .val (.int .i64 o.2.f_last)]), (1012, 9, [.rowc false (α := List UInt8) [] E_string v12]), (1013, 9, [.rowc false (α := List UInt8) [] E_string o.1]), (1014, 9, [.rowc false (α := List UInt8) [] E_string v14]), (700882, 96, [.mapc (some .i64) true (α := S_life_Box) Z_life_Box E_life_Box o.2.f_boxes]), (700883, 98, [.mapc none true (α := S_api_Kept) (S_api_Kept.mk [] []) E_api_Kept o.2.f_nets]), (700884, 98, [.mapc none true (α := S_api_Kept) (S_api_Kept.mk [] []) E_api_Kept o.2.f_vols])] (.exit 2) Q → WL Try.prog 176 F0 w0 [(0, .recs (α := S_api_Call) (S_api_Call.mk 0 [] 0 Z_api_Spec) E_api_Call v0), (3, .own 22 0), (4, .val (.int .i64 v4)), (5, .val (.int .i64 v5)), (11, .recs (α := S_api_Container) Z_api_Container E_api_Container v11), (12, .row 1012), (13, .row 1013), (14, .row 1014), (15, .val (.int .i64 v15))] [(22, 100, [.mp 700882, .mp 700883, .mp 700884, .val (.int .i64 b22.f_last)]), (1012, 9, [.rowc false (α := List UInt8) [] E_string v12]), (1013, 9, [.rowc false (α := List UInt8) [] E_string v13]), (1014, 9, [.rowc false (α := List UInt8) [] E_string v14]), (700882, 96, [.mapc (some .i64) true (α := S_life_Box) Z_life_Box E_life_Box b22.f_boxes]), (700883, 98, [.mapc none true (α := S_api_Kept) (S_api_Kept.mk [] []) E_api_Kept b22.f_nets]), (700884, 98, [.mapc none true (α := S_api_Kept) (S_api_Kept.mk [] []) E_api_Kept b22.f_vols])] (cI (cI (cB (cA (cB (cB (cB (cB (cB (cB (cI (cA (cB (cI (cI (cB (cA (cB (cB (cB (cB (cF Try.f5)))))))))))))))))))))) Q := by
  induction k with
  | zero => intro v13 v15 b22 o h; cases h
  | succ k ih =>
    intro v13 v15 b22 o h hQ
    rw [law33_StoreHolds_l4] at h
    refine WL.round ?_
    refine Wp.seq ?_
    refine Wp.seq ?_
    obtain ⟨r16, hr16, h⟩ := bind_of h
    refine Wp.region hΓ [] [] [(2, ⟨[(1000000, 22), (1010060, 700882), (1010061, 700883), (1010062, 700884)], [(1000000, 22), (1010060, 700882), (1010061, 700883), (1010062, 700884)], [.own 1000000 0], [(1000000, 100, [.mp 1010060, .mp 1010061, .mp 1010062, .val (.int .i64 b22.f_last)]), (1010060, 96, [.mapc (some .i64) true (α := S_life_Box) Z_life_Box E_life_Box b22.f_boxes]), (1010061, 98, [.mapc none true (α := S_api_Kept) (S_api_Kept.mk [] []) E_api_Kept b22.f_nets]), (1010062, 98, [.mapc none true (α := S_api_Kept) (S_api_Kept.mk [] []) E_api_Kept b22.f_vols])], .recs (α := S_api_Kept) (S_api_Kept.mk [] []) E_api_Kept r16.1, [(1000000, 100, [.mp 1010060, .mp 1010061, .mp 1010062, .val (.int .i64 r16.2.f_last)]), (1010060, 96, [.mapc (some .i64) true (α := S_life_Box) Z_life_Box E_life_Box r16.2.f_boxes]), (1010061, 98, [.mapc none true (α := S_api_Kept) (S_api_Kept.mk [] []) E_api_Kept r16.2.f_nets]), (1010062, 98, [.mapc none true (α := S_api_Kept) (S_api_Kept.mk [] []) E_api_Kept r16.2.f_vols])]⟩)] [0, 3, 4, 5, 11, 12, 13, 14, 15, 91] [22, 1012, 1013, 1014, 700882, 700883, 700884] (K' := [(0, .recs (α := S_api_Call) (S_api_Call.mk 0 [] 0 Z_api_Spec) E_api_Call v0), (3, .own 22 0), (4, .val (.int .i64 v4)), (5, .val (.int .i64 v5)), (11, .recs (α := S_api_Container) Z_api_Container E_api_Container v11), (12, .row 1012), (13, .row 1013), (14, .row 1014), (15, .val (.int .i64 v15)), (91, .val (.bool (decide (v15 < (List.length r16.1 : Int)))))]) (L' := [(22, 100, [.mp 700882, .mp 700883, .mp 700884, .val (.int .i64 r16.2.f_last)]), (1012, 9, [.rowc false (α := List UInt8) [] E_string v12]), (1013, 9, [.rowc false (α := List UInt8) [] E_string v13]), (1014, 9, [.rowc false (α := List UInt8) [] E_string v14]), (700882, 96, [.mapc (some .i64) true (α := S_life_Box) Z_life_Box E_life_Box r16.2.f_boxes]), (700883, 98, [.mapc none true (α := S_api_Kept) (S_api_Kept.mk [] []) E_api_Kept r16.2.f_nets]), (700884, 98, [.mapc none true (α := S_api_Kept) (S_api_Kept.mk [] []) E_api_Kept r16.2.f_vols])]) (ob := [CbOb (CallsB Try.prog) 32 [.own 22 0] [some (100, [.mp 700882, .mp 700883, .mp 700884, .val (.int .i64 b22.f_last)]), some (96, [.mapc (some .i64) true (α := S_life_Box) Z_life_Box E_life_Box b22.f_boxes]), some (98, [.mapc none true (α := S_api_Kept) (S_api_Kept.mk [] []) E_api_Kept b22.f_nets]), some (98, [.mapc none true (α := S_api_Kept) (S_api_Kept.mk [] []) E_api_Kept b22.f_vols])] ⟨[(1000000, 22), (1010060, 700882), (1010061, 700883), (1010062, 700884)], [(1000000, 22), (1010060, 700882), (1010061, 700883), (1010062, 700884)], [.own 1000000 0], [(1000000, 100, [.mp 1010060, .mp 1010061, .mp 1010062, .val (.int .i64 b22.f_last)]), (1010060, 96, [.mapc (some .i64) true (α := S_life_Box) Z_life_Box E_life_Box b22.f_boxes]), (1010061, 98, [.mapc none true (α := S_api_Kept) (S_api_Kept.mk [] []) E_api_Kept b22.f_nets]), (1010062, 98, [.mapc none true (α := S_api_Kept) (S_api_Kept.mk [] []) E_api_Kept b22.f_vols])], .recs (α := S_api_Kept) (S_api_Kept.mk [] []) E_api_Kept r16.1, [(1000000, 100, [.mp 1010060, .mp 1010061, .mp 1010062, .val (.int .i64 r16.2.f_last)]), (1010060, 96, [.mapc (some .i64) true (α := S_life_Box) Z_life_Box E_life_Box r16.2.f_boxes]), (1010061, 98, [.mapc none true (α := S_api_Kept) (S_api_Kept.mk [] []) E_api_Kept r16.2.f_nets]), (1010062, 98, [.mapc none true (α := S_api_Kept) (S_api_Kept.mk [] []) E_api_Kept r16.2.f_vols])]⟩]) (by kernel_rfl) (AllP.cons (⟨(ok_store_Store_Nets__o0 n b22 _ hr16), by kernel_rfl, by kernel_rfl⟩) AllP.nil) ?_
    refine To.thenN ?_
    refine Wp.cond (b := (decide (v15 < (List.length r16.1 : Int)))) (by kernel_rfl) (fun hb => ?_) (fun hb => ?_)
    · replace h := if_t hb h
      refine Wp.skip ?_
      refine To.thenN ?_
      refine Wp.seq ?_
      refine Wp.block ?_
      obtain ⟨r17, hr17, h⟩ := bind_of h
      obtain ⟨hc18, h⟩ := chk_of h
      obtain ⟨hc19, h⟩ := chk_of h
      refine Wp.region hΓ [] [(7, .recs (α := List UInt8) [] E_string ([((r17.1)[Int.toNat v15]?.getD (S_api_Kept.mk [] [])).f_Name])), (8, .recs (α := List UInt8) [] E_string (v13 ++ ([((r17.1)[Int.toNat v15]?.getD (S_api_Kept.mk [] [])).f_Name] : List (List UInt8))))] [(2, ⟨[(1000000, 22), (1010060, 700882), (1010061, 700883), (1010062, 700884)], [(1000000, 22), (1010060, 700882), (1010061, 700883), (1010062, 700884)], [.own 1000000 0], [(1000000, 100, [.mp 1010060, .mp 1010061, .mp 1010062, .val (.int .i64 r16.2.f_last)]), (1010060, 96, [.mapc (some .i64) true (α := S_life_Box) Z_life_Box E_life_Box r16.2.f_boxes]), (1010061, 98, [.mapc none true (α := S_api_Kept) (S_api_Kept.mk [] []) E_api_Kept r16.2.f_nets]), (1010062, 98, [.mapc none true (α := S_api_Kept) (S_api_Kept.mk [] []) E_api_Kept r16.2.f_vols])], .recs (α := S_api_Kept) (S_api_Kept.mk [] []) E_api_Kept r17.1, [(1000000, 100, [.mp 1010060, .mp 1010061, .mp 1010062, .val (.int .i64 r17.2.f_last)]), (1010060, 96, [.mapc (some .i64) true (α := S_life_Box) Z_life_Box E_life_Box r17.2.f_boxes]), (1010061, 98, [.mapc none true (α := S_api_Kept) (S_api_Kept.mk [] []) E_api_Kept r17.2.f_nets]), (1010062, 98, [.mapc none true (α := S_api_Kept) (S_api_Kept.mk [] []) E_api_Kept r17.2.f_vols])]⟩)] [0, 3, 4, 5, 11, 12, 13, 14, 15] [22, 102, 1012, 1014, 700882, 700883, 700884] (K' := [(0, .recs (α := S_api_Call) (S_api_Call.mk 0 [] 0 Z_api_Spec) E_api_Call v0), (3, .own 22 0), (4, .val (.int .i64 v4)), (5, .val (.int .i64 v5)), (11, .recs (α := S_api_Container) Z_api_Container E_api_Container v11), (12, .row 1012), (13, .row 102), (14, .row 1014), (15, .val (.int .i64 v15))]) (L' := [(22, 100, [.mp 700882, .mp 700883, .mp 700884, .val (.int .i64 r17.2.f_last)]), (102, 9, [.rowc false (α := List UInt8) [] E_string (v13 ++ ([((r17.1)[Int.toNat v15]?.getD (S_api_Kept.mk [] [])).f_Name] : List (List UInt8)))]), (1012, 9, [.rowc false (α := List UInt8) [] E_string v12]), (1014, 9, [.rowc false (α := List UInt8) [] E_string v14]), (700882, 96, [.mapc (some .i64) true (α := S_life_Box) Z_life_Box E_life_Box r17.2.f_boxes]), (700883, 98, [.mapc none true (α := S_api_Kept) (S_api_Kept.mk [] []) E_api_Kept r17.2.f_nets]), (700884, 98, [.mapc none true (α := S_api_Kept) (S_api_Kept.mk [] []) E_api_Kept r17.2.f_vols])]) (ob := [CbOb (CallsB Try.prog) 32 [.own 22 0] [some (100, [.mp 700882, .mp 700883, .mp 700884, .val (.int .i64 r16.2.f_last)]), some (96, [.mapc (some .i64) true (α := S_life_Box) Z_life_Box E_life_Box r16.2.f_boxes]), some (98, [.mapc none true (α := S_api_Kept) (S_api_Kept.mk [] []) E_api_Kept r16.2.f_nets]), some (98, [.mapc none true (α := S_api_Kept) (S_api_Kept.mk [] []) E_api_Kept r16.2.f_vols])] ⟨[(1000000, 22), (1010060, 700882), (1010061, 700883), (1010062, 700884)], [(1000000, 22), (1010060, 700882), (1010061, 700883), (1010062, 700884)], [.own 1000000 0], [(1000000, 100, [.mp 1010060, .mp 1010061, .mp 1010062, .val (.int .i64 r16.2.f_last)]), (1010060, 96, [.mapc (some .i64) true (α := S_life_Box) Z_life_Box E_life_Box r16.2.f_boxes]), (1010061, 98, [.mapc none true (α := S_api_Kept) (S_api_Kept.mk [] []) E_api_Kept r16.2.f_nets]), (1010062, 98, [.mapc none true (α := S_api_Kept) (S_api_Kept.mk [] []) E_api_Kept r16.2.f_vols])], .recs (α := S_api_Kept) (S_api_Kept.mk [] []) E_api_Kept r17.1, [(1000000, 100, [.mp 1010060, .mp 1010061, .mp 1010062, .val (.int .i64 r17.2.f_last)]), (1010060, 96, [.mapc (some .i64) true (α := S_life_Box) Z_life_Box E_life_Box r17.2.f_boxes]), (1010061, 98, [.mapc none true (α := S_api_Kept) (S_api_Kept.mk [] []) E_api_Kept r17.2.f_nets]), (1010062, 98, [.mapc none true (α := S_api_Kept) (S_api_Kept.mk [] []) E_api_Kept r17.2.f_vols])]⟩, (decide (0 ≤ v15 ∧ v15 < (List.length r17.1 : Int))) = true, (MkOb 1 [.str (((r17.1)[Int.toNat v15]?.getD (S_api_Kept.mk [] [])).f_Name)] 1 (.recs (α := List UInt8) [] E_string ([((r17.1)[Int.toNat v15]?.getD (S_api_Kept.mk [] [])).f_Name])) ∧ GoodR (.recs (α := List UInt8) [] E_string ([((r17.1)[Int.toNat v15]?.getD (S_api_Kept.mk [] [])).f_Name]))), (decide ((List.length v13 + List.length ([((r17.1)[Int.toNat v15]?.getD (S_api_Kept.mk [] [])).f_Name] : List (List UInt8))) * (16 + 1) ≤ limit)) = true, (AppOb [] E_string v13 (List.flatMap E_string ([((r17.1)[Int.toNat v15]?.getD (S_api_Kept.mk [] [])).f_Name] : List (List UInt8))) (List.length ([((r17.1)[Int.toNat v15]?.getD (S_api_Kept.mk [] [])).f_Name] : List (List UInt8))) (.recs (α := List UInt8) [] E_string (v13 ++ ([((r17.1)[Int.toNat v15]?.getD (S_api_Kept.mk [] [])).f_Name] : List (List UInt8)))) ∧ GoodR (.recs (α := List UInt8) [] E_string (v13 ++ ([((r17.1)[Int.toNat v15]?.getD (S_api_Kept.mk [] [])).f_Name] : List (List UInt8)))))]) (by kernel_rfl) (AllP.cons (⟨(ok_store_Store_Nets__o0 n r16.2 _ hr17), by kernel_rfl, by kernel_rfl⟩) (AllP.cons hc18 (AllP.cons (mkOb (by kernel_rfl) rfl (by kernel_rfl) (good_E_string _)) (AllP.cons hc19 (AllP.cons (appOb rfl rfl (good_E_string _)) AllP.nil))))) ?_
      refine To.blockN ?_
      refine To.thenN ?_
      refine Wp.region hΓ [] [] [] [0, 3, 4, 5, 11, 12, 13, 14, 15] [22, 102, 1012, 1014, 700882, 700883, 700884] (K' := [(0, .recs (α := S_api_Call) (S_api_Call.mk 0 [] 0 Z_api_Spec) E_api_Call v0), (3, .own 22 0), (4, .val (.int .i64 v4)), (5, .val (.int .i64 v5)), (11, .recs (α := S_api_Container) Z_api_Container E_api_Container v11), (12, .row 1012), (13, .row 102), (14, .row 1014), (15, .val (.int .i64 (IntKind.wrap .i64 (v15 + 1))))]) (L' := [(22, 100, [.mp 700882, .mp 700883, .mp 700884, .val (.int .i64 r17.2.f_last)]), (102, 9, [.rowc false (α := List UInt8) [] E_string (v13 ++ ([((r17.1)[Int.toNat v15]?.getD (S_api_Kept.mk [] [])).f_Name] : List (List UInt8)))]), (1012, 9, [.rowc false (α := List UInt8) [] E_string v12]), (1014, 9, [.rowc false (α := List UInt8) [] E_string v14]), (700882, 96, [.mapc (some .i64) true (α := S_life_Box) Z_life_Box E_life_Box r17.2.f_boxes]), (700883, 98, [.mapc none true (α := S_api_Kept) (S_api_Kept.mk [] []) E_api_Kept r17.2.f_nets]), (700884, 98, [.mapc none true (α := S_api_Kept) (S_api_Kept.mk [] []) E_api_Kept r17.2.f_vols])]) (ob := []) (by kernel_rfl) AllP.nil ?_
      refine To.keep (kk := [0, 3, 4, 5, 11, 12, 13, 14, 15]) (kl := [22, 102, 1012, 1014, 700882, 700883, 700884]) (K' := [(0, .recs (α := S_api_Call) (S_api_Call.mk 0 [] 0 Z_api_Spec) E_api_Call v0), (3, .own 22 0), (4, .val (.int .i64 v4)), (5, .val (.int .i64 v5)), (11, .recs (α := S_api_Container) Z_api_Container E_api_Container v11), (12, .row 1012), (13, .row 102), (14, .row 1014), (15, .val (.int .i64 (IntKind.wrap .i64 (v15 + 1))))]) (L' := [(22, 100, [.mp 700882, .mp 700883, .mp 700884, .val (.int .i64 r17.2.f_last)]), (102, 9, [.rowc false (α := List UInt8) [] E_string (v13 ++ ([((r17.1)[Int.toNat v15]?.getD (S_api_Kept.mk [] [])).f_Name] : List (List UInt8)))]), (1012, 9, [.rowc false (α := List UInt8) [] E_string v12]), (1014, 9, [.rowc false (α := List UInt8) [] E_string v14]), (700882, 96, [.mapc (some .i64) true (α := S_life_Box) Z_life_Box E_life_Box r17.2.f_boxes]), (700883, 98, [.mapc none true (α := S_api_Kept) (S_api_Kept.mk [] []) E_api_Kept r17.2.f_nets]), (700884, 98, [.mapc none true (α := S_api_Kept) (S_api_Kept.mk [] []) E_api_Kept r17.2.f_vols])]) (by kernel_rfl) (by kernel_rfl) ?_
      refine To.pre (St.rename 102 1013 (by decide) (K' := [(0, .recs (α := S_api_Call) (S_api_Call.mk 0 [] 0 Z_api_Spec) E_api_Call v0), (3, .own 22 0), (4, .val (.int .i64 v4)), (5, .val (.int .i64 v5)), (11, .recs (α := S_api_Container) Z_api_Container E_api_Container v11), (12, .row 1012), (13, .row 1013), (14, .row 1014), (15, .val (.int .i64 (IntKind.wrap .i64 (v15 + 1))))]) (L' := [(22, 100, [.mp 700882, .mp 700883, .mp 700884, .val (.int .i64 r17.2.f_last)]), (1013, 9, [.rowc false (α := List UInt8) [] E_string (v13 ++ ([((r17.1)[Int.toNat v15]?.getD (S_api_Kept.mk [] [])).f_Name] : List (List UInt8)))]), (1012, 9, [.rowc false (α := List UInt8) [] E_string v12]), (1014, 9, [.rowc false (α := List UInt8) [] E_string v14]), (700882, 96, [.mapc (some .i64) true (α := S_life_Box) Z_life_Box E_life_Box r17.2.f_boxes]), (700883, 98, [.mapc none true (α := S_api_Kept) (S_api_Kept.mk [] []) E_api_Kept r17.2.f_nets]), (700884, 98, [.mapc none true (α := S_api_Kept) (S_api_Kept.mk [] []) E_api_Kept r17.2.f_vols])]) (by kernel_rfl) (by kernel_rfl) (by kernel_rfl)) ?_
      refine To.keep (kk := [0, 3, 4, 5, 11, 12, 13, 14, 15]) (kl := [22, 1012, 1013, 1014, 700882, 700883, 700884]) (K' := [(0, .recs (α := S_api_Call) (S_api_Call.mk 0 [] 0 Z_api_Spec) E_api_Call v0), (3, .own 22 0), (4, .val (.int .i64 v4)), (5, .val (.int .i64 v5)), (11, .recs (α := S_api_Container) Z_api_Container E_api_Container v11), (12, .row 1012), (13, .row 1013), (14, .row 1014), (15, .val (.int .i64 (IntKind.wrap .i64 (v15 + 1))))]) (L' := [(22, 100, [.mp 700882, .mp 700883, .mp 700884, .val (.int .i64 r17.2.f_last)]), (1012, 9, [.rowc false (α := List UInt8) [] E_string v12]), (1013, 9, [.rowc false (α := List UInt8) [] E_string (v13 ++ ([((r17.1)[Int.toNat v15]?.getD (S_api_Kept.mk [] [])).f_Name] : List (List UInt8)))]), (1014, 9, [.rowc false (α := List UInt8) [] E_string v14]), (700882, 96, [.mapc (some .i64) true (α := S_life_Box) Z_life_Box E_life_Box r17.2.f_boxes]), (700883, 98, [.mapc none true (α := S_api_Kept) (S_api_Kept.mk [] []) E_api_Kept r17.2.f_nets]), (700884, 98, [.mapc none true (α := S_api_Kept) (S_api_Kept.mk [] []) E_api_Kept r17.2.f_vols])]) (by kernel_rfl) (by kernel_rfl) ?_
      refine To.again ?_
      exact ih (v13 ++ ([((r17.1)[Int.toNat v15]?.getD (S_api_Kept.mk [] [])).f_Name] : List (List UInt8))) (IntKind.wrap .i64 (v15 + 1)) r17.2 _ h hQ
    · replace h := if_f hb h
      refine Wp.exit ?_
      refine To.thenX ?_
      refine To.thenX ?_
      refine To.keep (kk := [0, 3, 4, 5, 11, 12, 13, 14]) (kl := [22, 1012, 1013, 1014, 700882, 700883, 700884]) (K' := [(0, .recs (α := S_api_Call) (S_api_Call.mk 0 [] 0 Z_api_Spec) E_api_Call v0), (3, .own 22 0), (4, .val (.int .i64 v4)), (5, .val (.int .i64 v5)), (11, .recs (α := S_api_Container) Z_api_Container E_api_Container v11), (12, .row 1012), (13, .row 1013), (14, .row 1014)]) (L' := [(22, 100, [.mp 700882, .mp 700883, .mp 700884, .val (.int .i64 r16.2.f_last)]), (1012, 9, [.rowc false (α := List UInt8) [] E_string v12]), (1013, 9, [.rowc false (α := List UInt8) [] E_string v13]), (1014, 9, [.rowc false (α := List UInt8) [] E_string v14]), (700882, 96, [.mapc (some .i64) true (α := S_life_Box) Z_life_Box E_life_Box r16.2.f_boxes]), (700883, 98, [.mapc none true (α := S_api_Kept) (S_api_Kept.mk [] []) E_api_Kept r16.2.f_nets]), (700884, 98, [.mapc none true (α := S_api_Kept) (S_api_Kept.mk [] []) E_api_Kept r16.2.f_vols])]) (by kernel_rfl) (by kernel_rfl) ?_
      cases h
      exact hQ
def law33_StoreHolds_l5 (n : Nat) (v0 : List (S_api_Call)) (v4 : Int) (v5 : Int) (v11 : List (S_api_Container)) (v12 : List (List UInt8)) (v13 : List (List UInt8)) : Nat → (List (List UInt8)) → Int → S_store_Store → Option ((List (List UInt8)) × S_store_Store)
  | 0, _, _, _ => none
  | k + 1, v14, v16, b22 => (store_Store_Vols__o0 n b22).bind fun r17 =>
  if (decide (v16 < (List.length r17.1 : Int))) = true then ((store_Store_Vols__o0 n r17.2).bind fun r18 =>
  if (decide (0 ≤ v16 ∧ v16 < (List.length r18.1 : Int))) = true then (if (decide ((List.length v14 + List.length ([((r18.1)[Int.toNat v16]?.getD (S_api_Kept.mk [] [])).f_Name] : List (List UInt8))) * (16 + 1) ≤ limit)) = true then (law33_StoreHolds_l5 n v0 v4 v5 v11 v12 v13 k (v14 ++ ([((r18.1)[Int.toNat v16]?.getD (S_api_Kept.mk [] [])).f_Name] : List (List UInt8))) (IntKind.wrap .i64 (v16 + 1)) r18.2) else none) else none)
  else (some (v14, r17.2))
theorem ok_law33_StoreHolds_l5 (n : Nat) (v0 : List (S_api_Call)) (v4 : Int) (v5 : Int) (v11 : List (S_api_Container)) (v12 : List (List UInt8)) (v13 : List (List UInt8)) {F0 : Fz} {w0 : Pt Try.prog} {Q : Exit → Act → World → Prop} (k : Nat) : ∀ (v14 : List (List UInt8)) (v16 : Int) (b22 : S_store_Store) (o : (List (List UInt8)) × S_store_Store), law33_StoreHolds_l5 n v0 v4 v5 v11 v12 v13 k v14 v16 b22 = some o → To 176 F0 w0 [(0, .recs (α := S_api_Call) (S_api_Call.mk 0 [] 0 Z_api_Spec) E_api_Call v0), (3, .own 22 0), (4, .val (.int .i64 v4)), (5, .val (.int .i64 v5)), (11, .recs (α := S_api_Container) Z_api_Container E_api_Container v11), (12, .row 1012), (13, .row 1013), (14, .row 1014)] [(22, 100, [.mp 700882, .mp 700883, .mp 700884, .val (.int .i64 o.2.f_last)]), (1012, 9, [.rowc false (α := List UInt8) [] E_string v12]), (1013, 9, [.rowc false (α := List UInt8) [] E_string v13]), (1014, 9, [.rowc false (α := List UInt8) [] E_string o.1]), (700882, 96, [.mapc (some .i64) true (α := S_life_Box) Z_life_Box E_life_Box o.2.f_boxes]), (700883, 98, [.mapc none true (α := S_api_Kept) (S_api_Kept.mk [] []) E_api_Kept o.2.f_nets]), (700884, 98, [.mapc none true (α := S_api_Kept) (S_api_Kept.mk [] []) E_api_Kept o.2.f_vols])] (.exit 4) Q → WL Try.prog 176 F0 w0 [(0, .recs (α := S_api_Call) (S_api_Call.mk 0 [] 0 Z_api_Spec) E_api_Call v0), (3, .own 22 0), (4, .val (.int .i64 v4)), (5, .val (.int .i64 v5)), (11, .recs (α := S_api_Container) Z_api_Container E_api_Container v11), (12, .row 1012), (13, .row 1013), (14, .row 1014), (16, .val (.int .i64 v16))] [(22, 100, [.mp 700882, .mp 700883, .mp 700884, .val (.int .i64 b22.f_last)]), (1012, 9, [.rowc false (α := List UInt8) [] E_string v12]), (1013, 9, [.rowc false (α := List UInt8) [] E_string v13]), (1014, 9, [.rowc false (α := List UInt8) [] E_string v14]), (700882, 96, [.mapc (some .i64) true (α := S_life_Box) Z_life_Box E_life_Box b22.f_boxes]), (700883, 98, [.mapc none true (α := S_api_Kept) (S_api_Kept.mk [] []) E_api_Kept b22.f_nets]), (700884, 98, [.mapc none true (α := S_api_Kept) (S_api_Kept.mk [] []) E_api_Kept b22.f_vols])] (cI (cI (cB (cA (cB (cB (cB (cB (cB (cB (cB (cI (cA (cB (cI (cI (cB (cA (cB (cB (cB (cB (cF Try.f5))))))))))))))))))))))) Q := by
  induction k with
  | zero => intro v14 v16 b22 o h; cases h
  | succ k ih =>
    intro v14 v16 b22 o h hQ
    rw [law33_StoreHolds_l5] at h
    refine WL.round ?_
    refine Wp.seq ?_
    refine Wp.seq ?_
    obtain ⟨r17, hr17, h⟩ := bind_of h
    refine Wp.region hΓ [] [] [(2, ⟨[(1000000, 22), (1010060, 700882), (1010061, 700883), (1010062, 700884)], [(1000000, 22), (1010060, 700882), (1010061, 700883), (1010062, 700884)], [.own 1000000 0], [(1000000, 100, [.mp 1010060, .mp 1010061, .mp 1010062, .val (.int .i64 b22.f_last)]), (1010060, 96, [.mapc (some .i64) true (α := S_life_Box) Z_life_Box E_life_Box b22.f_boxes]), (1010061, 98, [.mapc none true (α := S_api_Kept) (S_api_Kept.mk [] []) E_api_Kept b22.f_nets]), (1010062, 98, [.mapc none true (α := S_api_Kept) (S_api_Kept.mk [] []) E_api_Kept b22.f_vols])], .recs (α := S_api_Kept) (S_api_Kept.mk [] []) E_api_Kept r17.1, [(1000000, 100, [.mp 1010060, .mp 1010061, .mp 1010062, .val (.int .i64 r17.2.f_last)]), (1010060, 96, [.mapc (some .i64) true (α := S_life_Box) Z_life_Box E_life_Box r17.2.f_boxes]), (1010061, 98, [.mapc none true (α := S_api_Kept) (S_api_Kept.mk [] []) E_api_Kept r17.2.f_nets]), (1010062, 98, [.mapc none true (α := S_api_Kept) (S_api_Kept.mk [] []) E_api_Kept r17.2.f_vols])]⟩)] [0, 3, 4, 5, 11, 12, 13, 14, 16, 107] [22, 1012, 1013, 1014, 700882, 700883, 700884] (K' := [(0, .recs (α := S_api_Call) (S_api_Call.mk 0 [] 0 Z_api_Spec) E_api_Call v0), (3, .own 22 0), (4, .val (.int .i64 v4)), (5, .val (.int .i64 v5)), (11, .recs (α := S_api_Container) Z_api_Container E_api_Container v11), (12, .row 1012), (13, .row 1013), (14, .row 1014), (16, .val (.int .i64 v16)), (107, .val (.bool (decide (v16 < (List.length r17.1 : Int)))))]) (L' := [(22, 100, [.mp 700882, .mp 700883, .mp 700884, .val (.int .i64 r17.2.f_last)]), (1012, 9, [.rowc false (α := List UInt8) [] E_string v12]), (1013, 9, [.rowc false (α := List UInt8) [] E_string v13]), (1014, 9, [.rowc false (α := List UInt8) [] E_string v14]), (700882, 96, [.mapc (some .i64) true (α := S_life_Box) Z_life_Box E_life_Box r17.2.f_boxes]), (700883, 98, [.mapc none true (α := S_api_Kept) (S_api_Kept.mk [] []) E_api_Kept r17.2.f_nets]), (700884, 98, [.mapc none true (α := S_api_Kept) (S_api_Kept.mk [] []) E_api_Kept r17.2.f_vols])]) (ob := [CbOb (CallsB Try.prog) 33 [.own 22 0] [some (100, [.mp 700882, .mp 700883, .mp 700884, .val (.int .i64 b22.f_last)]), some (96, [.mapc (some .i64) true (α := S_life_Box) Z_life_Box E_life_Box b22.f_boxes]), some (98, [.mapc none true (α := S_api_Kept) (S_api_Kept.mk [] []) E_api_Kept b22.f_nets]), some (98, [.mapc none true (α := S_api_Kept) (S_api_Kept.mk [] []) E_api_Kept b22.f_vols])] ⟨[(1000000, 22), (1010060, 700882), (1010061, 700883), (1010062, 700884)], [(1000000, 22), (1010060, 700882), (1010061, 700883), (1010062, 700884)], [.own 1000000 0], [(1000000, 100, [.mp 1010060, .mp 1010061, .mp 1010062, .val (.int .i64 b22.f_last)]), (1010060, 96, [.mapc (some .i64) true (α := S_life_Box) Z_life_Box E_life_Box b22.f_boxes]), (1010061, 98, [.mapc none true (α := S_api_Kept) (S_api_Kept.mk [] []) E_api_Kept b22.f_nets]), (1010062, 98, [.mapc none true (α := S_api_Kept) (S_api_Kept.mk [] []) E_api_Kept b22.f_vols])], .recs (α := S_api_Kept) (S_api_Kept.mk [] []) E_api_Kept r17.1, [(1000000, 100, [.mp 1010060, .mp 1010061, .mp 1010062, .val (.int .i64 r17.2.f_last)]), (1010060, 96, [.mapc (some .i64) true (α := S_life_Box) Z_life_Box E_life_Box r17.2.f_boxes]), (1010061, 98, [.mapc none true (α := S_api_Kept) (S_api_Kept.mk [] []) E_api_Kept r17.2.f_nets]), (1010062, 98, [.mapc none true (α := S_api_Kept) (S_api_Kept.mk [] []) E_api_Kept r17.2.f_vols])]⟩]) (by kernel_rfl) (AllP.cons (⟨(ok_store_Store_Vols__o0 n b22 _ hr17), by kernel_rfl, by kernel_rfl⟩) AllP.nil) ?_
    refine To.thenN ?_
    refine Wp.cond (b := (decide (v16 < (List.length r17.1 : Int)))) (by kernel_rfl) (fun hb => ?_) (fun hb => ?_)
    · replace h := if_t hb h
      refine Wp.skip ?_
      refine To.thenN ?_
      refine Wp.seq ?_
      refine Wp.block ?_
      obtain ⟨r18, hr18, h⟩ := bind_of h
      obtain ⟨hc19, h⟩ := chk_of h
      obtain ⟨hc20, h⟩ := chk_of h
      refine Wp.region hΓ [] [(7, .recs (α := List UInt8) [] E_string ([((r18.1)[Int.toNat v16]?.getD (S_api_Kept.mk [] [])).f_Name])), (8, .recs (α := List UInt8) [] E_string (v14 ++ ([((r18.1)[Int.toNat v16]?.getD (S_api_Kept.mk [] [])).f_Name] : List (List UInt8))))] [(2, ⟨[(1000000, 22), (1010060, 700882), (1010061, 700883), (1010062, 700884)], [(1000000, 22), (1010060, 700882), (1010061, 700883), (1010062, 700884)], [.own 1000000 0], [(1000000, 100, [.mp 1010060, .mp 1010061, .mp 1010062, .val (.int .i64 r17.2.f_last)]), (1010060, 96, [.mapc (some .i64) true (α := S_life_Box) Z_life_Box E_life_Box r17.2.f_boxes]), (1010061, 98, [.mapc none true (α := S_api_Kept) (S_api_Kept.mk [] []) E_api_Kept r17.2.f_nets]), (1010062, 98, [.mapc none true (α := S_api_Kept) (S_api_Kept.mk [] []) E_api_Kept r17.2.f_vols])], .recs (α := S_api_Kept) (S_api_Kept.mk [] []) E_api_Kept r18.1, [(1000000, 100, [.mp 1010060, .mp 1010061, .mp 1010062, .val (.int .i64 r18.2.f_last)]), (1010060, 96, [.mapc (some .i64) true (α := S_life_Box) Z_life_Box E_life_Box r18.2.f_boxes]), (1010061, 98, [.mapc none true (α := S_api_Kept) (S_api_Kept.mk [] []) E_api_Kept r18.2.f_nets]), (1010062, 98, [.mapc none true (α := S_api_Kept) (S_api_Kept.mk [] []) E_api_Kept r18.2.f_vols])]⟩)] [0, 3, 4, 5, 11, 12, 13, 14, 16] [22, 118, 1012, 1013, 700882, 700883, 700884] (K' := [(0, .recs (α := S_api_Call) (S_api_Call.mk 0 [] 0 Z_api_Spec) E_api_Call v0), (3, .own 22 0), (4, .val (.int .i64 v4)), (5, .val (.int .i64 v5)), (11, .recs (α := S_api_Container) Z_api_Container E_api_Container v11), (12, .row 1012), (13, .row 1013), (14, .row 118), (16, .val (.int .i64 v16))]) (L' := [(22, 100, [.mp 700882, .mp 700883, .mp 700884, .val (.int .i64 r18.2.f_last)]), (118, 9, [.rowc false (α := List UInt8) [] E_string (v14 ++ ([((r18.1)[Int.toNat v16]?.getD (S_api_Kept.mk [] [])).f_Name] : List (List UInt8)))]), (1012, 9, [.rowc false (α := List UInt8) [] E_string v12]), (1013, 9, [.rowc false (α := List UInt8) [] E_string v13]), (700882, 96, [.mapc (some .i64) true (α := S_life_Box) Z_life_Box E_life_Box r18.2.f_boxes]), (700883, 98, [.mapc none true (α := S_api_Kept) (S_api_Kept.mk [] []) E_api_Kept r18.2.f_nets]), (700884, 98, [.mapc none true (α := S_api_Kept) (S_api_Kept.mk [] []) E_api_Kept r18.2.f_vols])]) (ob := [CbOb (CallsB Try.prog) 33 [.own 22 0] [some (100, [.mp 700882, .mp 700883, .mp 700884, .val (.int .i64 r17.2.f_last)]), some (96, [.mapc (some .i64) true (α := S_life_Box) Z_life_Box E_life_Box r17.2.f_boxes]), some (98, [.mapc none true (α := S_api_Kept) (S_api_Kept.mk [] []) E_api_Kept r17.2.f_nets]), some (98, [.mapc none true (α := S_api_Kept) (S_api_Kept.mk [] []) E_api_Kept r17.2.f_vols])] ⟨[(1000000, 22), (1010060, 700882), (1010061, 700883), (1010062, 700884)], [(1000000, 22), (1010060, 700882), (1010061, 700883), (1010062, 700884)], [.own 1000000 0], [(1000000, 100, [.mp 1010060, .mp 1010061, .mp 1010062, .val (.int .i64 r17.2.f_last)]), (1010060, 96, [.mapc (some .i64) true (α := S_life_Box) Z_life_Box E_life_Box r17.2.f_boxes]), (1010061, 98, [.mapc none true (α := S_api_Kept) (S_api_Kept.mk [] []) E_api_Kept r17.2.f_nets]), (1010062, 98, [.mapc none true (α := S_api_Kept) (S_api_Kept.mk [] []) E_api_Kept r17.2.f_vols])], .recs (α := S_api_Kept) (S_api_Kept.mk [] []) E_api_Kept r18.1, [(1000000, 100, [.mp 1010060, .mp 1010061, .mp 1010062, .val (.int .i64 r18.2.f_last)]), (1010060, 96, [.mapc (some .i64) true (α := S_life_Box) Z_life_Box E_life_Box r18.2.f_boxes]), (1010061, 98, [.mapc none true (α := S_api_Kept) (S_api_Kept.mk [] []) E_api_Kept r18.2.f_nets]), (1010062, 98, [.mapc none true (α := S_api_Kept) (S_api_Kept.mk [] []) E_api_Kept r18.2.f_vols])]⟩, (decide (0 ≤ v16 ∧ v16 < (List.length r18.1 : Int))) = true, (MkOb 1 [.str (((r18.1)[Int.toNat v16]?.getD (S_api_Kept.mk [] [])).f_Name)] 1 (.recs (α := List UInt8) [] E_string ([((r18.1)[Int.toNat v16]?.getD (S_api_Kept.mk [] [])).f_Name])) ∧ GoodR (.recs (α := List UInt8) [] E_string ([((r18.1)[Int.toNat v16]?.getD (S_api_Kept.mk [] [])).f_Name]))), (decide ((List.length v14 + List.length ([((r18.1)[Int.toNat v16]?.getD (S_api_Kept.mk [] [])).f_Name] : List (List UInt8))) * (16 + 1) ≤ limit)) = true, (AppOb [] E_string v14 (List.flatMap E_string ([((r18.1)[Int.toNat v16]?.getD (S_api_Kept.mk [] [])).f_Name] : List (List UInt8))) (List.length ([((r18.1)[Int.toNat v16]?.getD (S_api_Kept.mk [] [])).f_Name] : List (List UInt8))) (.recs (α := List UInt8) [] E_string (v14 ++ ([((r18.1)[Int.toNat v16]?.getD (S_api_Kept.mk [] [])).f_Name] : List (List UInt8)))) ∧ GoodR (.recs (α := List UInt8) [] E_string (v14 ++ ([((r18.1)[Int.toNat v16]?.getD (S_api_Kept.mk [] [])).f_Name] : List (List UInt8)))))]) (by kernel_rfl) (AllP.cons (⟨(ok_store_Store_Vols__o0 n r17.2 _ hr18), by kernel_rfl, by kernel_rfl⟩) (AllP.cons hc19 (AllP.cons (mkOb (by kernel_rfl) rfl (by kernel_rfl) (good_E_string _)) (AllP.cons hc20 (AllP.cons (appOb rfl rfl (good_E_string _)) AllP.nil))))) ?_
      refine To.blockN ?_
      refine To.thenN ?_
      refine Wp.region hΓ [] [] [] [0, 3, 4, 5, 11, 12, 13, 14, 16] [22, 118, 1012, 1013, 700882, 700883, 700884] (K' := [(0, .recs (α := S_api_Call) (S_api_Call.mk 0 [] 0 Z_api_Spec) E_api_Call v0), (3, .own 22 0), (4, .val (.int .i64 v4)), (5, .val (.int .i64 v5)), (11, .recs (α := S_api_Container) Z_api_Container E_api_Container v11), (12, .row 1012), (13, .row 1013), (14, .row 118), (16, .val (.int .i64 (IntKind.wrap .i64 (v16 + 1))))]) (L' := [(22, 100, [.mp 700882, .mp 700883, .mp 700884, .val (.int .i64 r18.2.f_last)]), (118, 9, [.rowc false (α := List UInt8) [] E_string (v14 ++ ([((r18.1)[Int.toNat v16]?.getD (S_api_Kept.mk [] [])).f_Name] : List (List UInt8)))]), (1012, 9, [.rowc false (α := List UInt8) [] E_string v12]), (1013, 9, [.rowc false (α := List UInt8) [] E_string v13]), (700882, 96, [.mapc (some .i64) true (α := S_life_Box) Z_life_Box E_life_Box r18.2.f_boxes]), (700883, 98, [.mapc none true (α := S_api_Kept) (S_api_Kept.mk [] []) E_api_Kept r18.2.f_nets]), (700884, 98, [.mapc none true (α := S_api_Kept) (S_api_Kept.mk [] []) E_api_Kept r18.2.f_vols])]) (ob := []) (by kernel_rfl) AllP.nil ?_
      refine To.keep (kk := [0, 3, 4, 5, 11, 12, 13, 14, 16]) (kl := [22, 118, 1012, 1013, 700882, 700883, 700884]) (K' := [(0, .recs (α := S_api_Call) (S_api_Call.mk 0 [] 0 Z_api_Spec) E_api_Call v0), (3, .own 22 0), (4, .val (.int .i64 v4)), (5, .val (.int .i64 v5)), (11, .recs (α := S_api_Container) Z_api_Container E_api_Container v11), (12, .row 1012), (13, .row 1013), (14, .row 118), (16, .val (.int .i64 (IntKind.wrap .i64 (v16 + 1))))]) (L' := [(22, 100, [.mp 700882, .mp 700883, .mp 700884, .val (.int .i64 r18.2.f_last)]), (118, 9, [.rowc false (α := List UInt8) [] E_string (v14 ++ ([((r18.1)[Int.toNat v16]?.getD (S_api_Kept.mk [] [])).f_Name] : List (List UInt8)))]), (1012, 9, [.rowc false (α := List UInt8) [] E_string v12]), (1013, 9, [.rowc false (α := List UInt8) [] E_string v13]), (700882, 96, [.mapc (some .i64) true (α := S_life_Box) Z_life_Box E_life_Box r18.2.f_boxes]), (700883, 98, [.mapc none true (α := S_api_Kept) (S_api_Kept.mk [] []) E_api_Kept r18.2.f_nets]), (700884, 98, [.mapc none true (α := S_api_Kept) (S_api_Kept.mk [] []) E_api_Kept r18.2.f_vols])]) (by kernel_rfl) (by kernel_rfl) ?_
      refine To.pre (St.rename 118 1014 (by decide) (K' := [(0, .recs (α := S_api_Call) (S_api_Call.mk 0 [] 0 Z_api_Spec) E_api_Call v0), (3, .own 22 0), (4, .val (.int .i64 v4)), (5, .val (.int .i64 v5)), (11, .recs (α := S_api_Container) Z_api_Container E_api_Container v11), (12, .row 1012), (13, .row 1013), (14, .row 1014), (16, .val (.int .i64 (IntKind.wrap .i64 (v16 + 1))))]) (L' := [(22, 100, [.mp 700882, .mp 700883, .mp 700884, .val (.int .i64 r18.2.f_last)]), (1014, 9, [.rowc false (α := List UInt8) [] E_string (v14 ++ ([((r18.1)[Int.toNat v16]?.getD (S_api_Kept.mk [] [])).f_Name] : List (List UInt8)))]), (1012, 9, [.rowc false (α := List UInt8) [] E_string v12]), (1013, 9, [.rowc false (α := List UInt8) [] E_string v13]), (700882, 96, [.mapc (some .i64) true (α := S_life_Box) Z_life_Box E_life_Box r18.2.f_boxes]), (700883, 98, [.mapc none true (α := S_api_Kept) (S_api_Kept.mk [] []) E_api_Kept r18.2.f_nets]), (700884, 98, [.mapc none true (α := S_api_Kept) (S_api_Kept.mk [] []) E_api_Kept r18.2.f_vols])]) (by kernel_rfl) (by kernel_rfl) (by kernel_rfl)) ?_
      refine To.keep (kk := [0, 3, 4, 5, 11, 12, 13, 14, 16]) (kl := [22, 1012, 1013, 1014, 700882, 700883, 700884]) (K' := [(0, .recs (α := S_api_Call) (S_api_Call.mk 0 [] 0 Z_api_Spec) E_api_Call v0), (3, .own 22 0), (4, .val (.int .i64 v4)), (5, .val (.int .i64 v5)), (11, .recs (α := S_api_Container) Z_api_Container E_api_Container v11), (12, .row 1012), (13, .row 1013), (14, .row 1014), (16, .val (.int .i64 (IntKind.wrap .i64 (v16 + 1))))]) (L' := [(22, 100, [.mp 700882, .mp 700883, .mp 700884, .val (.int .i64 r18.2.f_last)]), (1012, 9, [.rowc false (α := List UInt8) [] E_string v12]), (1013, 9, [.rowc false (α := List UInt8) [] E_string v13]), (1014, 9, [.rowc false (α := List UInt8) [] E_string (v14 ++ ([((r18.1)[Int.toNat v16]?.getD (S_api_Kept.mk [] [])).f_Name] : List (List UInt8)))]), (700882, 96, [.mapc (some .i64) true (α := S_life_Box) Z_life_Box E_life_Box r18.2.f_boxes]), (700883, 98, [.mapc none true (α := S_api_Kept) (S_api_Kept.mk [] []) E_api_Kept r18.2.f_nets]), (700884, 98, [.mapc none true (α := S_api_Kept) (S_api_Kept.mk [] []) E_api_Kept r18.2.f_vols])]) (by kernel_rfl) (by kernel_rfl) ?_
      refine To.again ?_
      exact ih (v14 ++ ([((r18.1)[Int.toNat v16]?.getD (S_api_Kept.mk [] [])).f_Name] : List (List UInt8))) (IntKind.wrap .i64 (v16 + 1)) r18.2 _ h hQ
    · replace h := if_f hb h
      refine Wp.exit ?_
      refine To.thenX ?_
      refine To.thenX ?_
      refine To.keep (kk := [0, 3, 4, 5, 11, 12, 13, 14]) (kl := [22, 1012, 1013, 1014, 700882, 700883, 700884]) (K' := [(0, .recs (α := S_api_Call) (S_api_Call.mk 0 [] 0 Z_api_Spec) E_api_Call v0), (3, .own 22 0), (4, .val (.int .i64 v4)), (5, .val (.int .i64 v5)), (11, .recs (α := S_api_Container) Z_api_Container E_api_Container v11), (12, .row 1012), (13, .row 1013), (14, .row 1014)]) (L' := [(22, 100, [.mp 700882, .mp 700883, .mp 700884, .val (.int .i64 r17.2.f_last)]), (1012, 9, [.rowc false (α := List UInt8) [] E_string v12]), (1013, 9, [.rowc false (α := List UInt8) [] E_string v13]), (1014, 9, [.rowc false (α := List UInt8) [] E_string v14]), (700882, 96, [.mapc (some .i64) true (α := S_life_Box) Z_life_Box E_life_Box r17.2.f_boxes]), (700883, 98, [.mapc none true (α := S_api_Kept) (S_api_Kept.mk [] []) E_api_Kept r17.2.f_nets]), (700884, 98, [.mapc none true (α := S_api_Kept) (S_api_Kept.mk [] []) E_api_Kept r17.2.f_vols])]) (by kernel_rfl) (by kernel_rfl) ?_
      cases h
      exact hQ
def law33_StoreHolds_l6 (n : Nat) (v0 : List (S_api_Call)) (v4 : Int) (v5 : Int) (v11 : List (S_api_Container)) (v13 : List (List UInt8)) (v14 : List (List UInt8)) (b22 : S_store_Store) : Nat → (List (List UInt8)) → Int → Option (Sum (Unit) (Bool))
  | 0, _, _ => none
  | k + 1, v12, v17 => if (decide (v17 < (List.length v11 : Int))) = true then (if (decide (0 ≤ v17 ∧ v17 < (List.length v11 : Int))) = true then ((ref02_Without n (((v11)[Int.toNat v17]?.getD Z_api_Container).f_Spec.f_Nets) v13).bind fun r18 =>
  if ((!((decide ((List.length r18 : Int) > 0)) == false) || decide (0 ≤ v17 ∧ v17 < (List.length v11 : Int)))) = true then (((if ((decide ((List.length r18 : Int) > 0)) == false) = true then ref02_Without n (((v11)[Int.toNat v17]?.getD Z_api_Container).f_Spec.f_Vols) v14 else some [])).bind fun r19 =>
  if ((!((bif (decide ((List.length r18 : Int) > 0)) then true else (decide ((List.length r19 : Int) > 0))) == false) || decide (0 ≤ v17 ∧ v17 < (List.length v11 : Int)))) = true then (((if ((bif (decide ((List.length r18 : Int) > 0)) then true else (decide ((List.length r19 : Int) > 0))) == false) = true then ref02_In n v12 (((v11)[Int.toNat v17]?.getD Z_api_Container).f_Spec.f_Name) else some false)).bind fun r20 =>
  if ((!((bif (bif (decide ((List.length r18 : Int) > 0)) then true else (decide ((List.length r19 : Int) > 0))) then true else r20) == false) || decide (0 ≤ v17 ∧ v17 < (List.length v11 : Int)))) = true then (lett ((bif (bif (bif (decide ((List.length r18 : Int) > 0)) then true else (decide ((List.length r19 : Int) > 0))) then true else r20) then true else (decide ((((v11)[Int.toNat v17]?.getD Z_api_Container).f_Id) > v4))) : Bool) fun x21 =>
  if x21 = true then (some (.inr false))
  else (if (decide (0 ≤ v17 ∧ v17 < (List.length v11 : Int))) = true then (if (decide ((List.length v12 + List.length ([((v11)[Int.toNat v17]?.getD Z_api_Container).f_Spec.f_Name] : List (List UInt8))) * (16 + 1) ≤ limit)) = true then (law33_StoreHolds_l6 n v0 v4 v5 v11 v13 v14 b22 k (v12 ++ ([((v11)[Int.toNat v17]?.getD Z_api_Container).f_Spec.f_Name] : List (List UInt8))) (IntKind.wrap .i64 (v17 + 1))) else none) else none)) else none) else none) else none) else none)
  else (some (.inl ()))
theorem ok_law33_StoreHolds_l6 (n : Nat) (v0 : List (S_api_Call)) (v4 : Int) (v5 : Int) (v11 : List (S_api_Container)) (v13 : List (List UInt8)) (v14 : List (List UInt8)) (b22 : S_store_Store) {F0 : Fz} {w0 : Pt Try.prog} {Q : Exit → Act → World → Prop} (k : Nat) : ∀ (v12 : List (List UInt8)) (v17 : Int) (o : Sum (Unit) (Bool)), law33_StoreHolds_l6 n v0 v4 v5 v11 v13 v14 b22 k v12 v17 = some o → (Sum.elim (fun s => To 176 F0 w0 [(0, .recs (α := S_api_Call) (S_api_Call.mk 0 [] 0 Z_api_Spec) E_api_Call v0), (3, .own 22 0), (4, .val (.int .i64 v4)), (5, .val (.int .i64 v5))] [(22, 100, [.mp 700882, .mp 700883, .mp 700884, .val (.int .i64 b22.f_last)]), (700882, 96, [.mapc (some .i64) true (α := S_life_Box) Z_life_Box E_life_Box b22.f_boxes]), (700883, 98, [.mapc none true (α := S_api_Kept) (S_api_Kept.mk [] []) E_api_Kept b22.f_nets]), (700884, 98, [.mapc none true (α := S_api_Kept) (S_api_Kept.mk [] []) E_api_Kept b22.f_vols])] (.exit 6) Q) (fun s => To 176 F0 w0 [(2, .val (.bool s))] [] .ret Q)) o → WL Try.prog 176 F0 w0 [(0, .recs (α := S_api_Call) (S_api_Call.mk 0 [] 0 Z_api_Spec) E_api_Call v0), (3, .own 22 0), (4, .val (.int .i64 v4)), (5, .val (.int .i64 v5)), (11, .recs (α := S_api_Container) Z_api_Container E_api_Container v11), (12, .row 1012), (13, .row 1013), (14, .row 1014), (17, .val (.int .i64 v17))] [(22, 100, [.mp 700882, .mp 700883, .mp 700884, .val (.int .i64 b22.f_last)]), (1012, 9, [.rowc true (α := List UInt8) [] E_string v12]), (1013, 9, [.rowc true (α := List UInt8) [] E_string v13]), (1014, 9, [.rowc true (α := List UInt8) [] E_string v14]), (700882, 96, [.mapc (some .i64) true (α := S_life_Box) Z_life_Box E_life_Box b22.f_boxes]), (700883, 98, [.mapc none true (α := S_api_Kept) (S_api_Kept.mk [] []) E_api_Kept b22.f_nets]), (700884, 98, [.mapc none true (α := S_api_Kept) (S_api_Kept.mk [] []) E_api_Kept b22.f_vols])] (cI (cI (cB (cB (cB (cB (cB (cB (cB (cB (cB (cI (cA (cB (cI (cI (cB (cA (cB (cB (cB (cB (cF Try.f5))))))))))))))))))))))) Q := by
  induction k with
  | zero => intro v12 v17 o h; cases h
  | succ k ih =>
    intro v12 v17 o h hQ
    rw [law33_StoreHolds_l6] at h
    refine WL.round ?_
    refine Wp.seq ?_
    refine Wp.seq ?_
    refine Wp.region hΓ [] [] [] [0, 3, 4, 5, 11, 12, 13, 14, 17, 122] [22, 1012, 1013, 1014, 700882, 700883, 700884] (K' := [(0, .recs (α := S_api_Call) (S_api_Call.mk 0 [] 0 Z_api_Spec) E_api_Call v0), (3, .own 22 0), (4, .val (.int .i64 v4)), (5, .val (.int .i64 v5)), (11, .recs (α := S_api_Container) Z_api_Container E_api_Container v11), (12, .row 1012), (13, .row 1013), (14, .row 1014), (17, .val (.int .i64 v17)), (122, .val (.bool (decide (v17 < (List.length v11 : Int)))))]) (L' := [(22, 100, [.mp 700882, .mp 700883, .mp 700884, .val (.int .i64 b22.f_last)]), (1012, 9, [.rowc true (α := List UInt8) [] E_string v12]), (1013, 9, [.rowc true (α := List UInt8) [] E_string v13]), (1014, 9, [.rowc true (α := List UInt8) [] E_string v14]), (700882, 96, [.mapc (some .i64) true (α := S_life_Box) Z_life_Box E_life_Box b22.f_boxes]), (700883, 98, [.mapc none true (α := S_api_Kept) (S_api_Kept.mk [] []) E_api_Kept b22.f_nets]), (700884, 98, [.mapc none true (α := S_api_Kept) (S_api_Kept.mk [] []) E_api_Kept b22.f_vols])]) (ob := []) (by kernel_rfl) AllP.nil ?_
    refine To.thenN ?_
    refine Wp.cond (b := (decide (v17 < (List.length v11 : Int)))) (by kernel_rfl) (fun hb => ?_) (fun hb => ?_)
    · replace h := if_t hb h
      refine Wp.skip ?_
      refine To.thenN ?_
      refine Wp.seq ?_
      refine Wp.block ?_
      refine Wp.seq ?_
      refine Wp.seq ?_
      obtain ⟨hc24, h⟩ := chk_of h
      obtain ⟨r18, hr18, h⟩ := bind_of h
      obtain ⟨hc25, h⟩ := chk_of h
      obtain ⟨r19, hr19, h⟩ := bind_of h
      obtain ⟨hc26, h⟩ := chk_of h
      obtain ⟨r20, hr20, h⟩ := bind_of h
      obtain ⟨hc27, h⟩ := chk_of h
      obtain ⟨x21, hx21, h⟩ := lett_of h
      refine Wp.region hΓ [] [(7, .recs (α := List UInt8) [] E_string r18), (18, .recs (α := List UInt8) [] E_string r19), (30, .val (.bool r20))] [] [0, 3, 4, 5, 11, 12, 13, 14, 17, 165] [22, 1012, 1013, 1014, 700882, 700883, 700884] (K' := [(0, .recs (α := S_api_Call) (S_api_Call.mk 0 [] 0 Z_api_Spec) E_api_Call v0), (3, .own 22 0), (4, .val (.int .i64 v4)), (5, .val (.int .i64 v5)), (11, .recs (α := S_api_Container) Z_api_Container E_api_Container v11), (12, .row 1012), (13, .row 1013), (14, .row 1014), (17, .val (.int .i64 v17)), (165, .val (.bool (bif (bif (bif (decide ((List.length r18 : Int) > 0)) then true else (decide ((List.length r19 : Int) > 0))) then true else r20) then true else (decide ((((v11)[Int.toNat v17]?.getD Z_api_Container).f_Id) > v4)))))]) (L' := [(22, 100, [.mp 700882, .mp 700883, .mp 700884, .val (.int .i64 b22.f_last)]), (1012, 9, [.rowc true (α := List UInt8) [] E_string v12]), (1013, 9, [.rowc true (α := List UInt8) [] E_string v13]), (1014, 9, [.rowc true (α := List UInt8) [] E_string v14]), (700882, 96, [.mapc (some .i64) true (α := S_life_Box) Z_life_Box E_life_Box b22.f_boxes]), (700883, 98, [.mapc none true (α := S_api_Kept) (S_api_Kept.mk [] []) E_api_Kept b22.f_nets]), (700884, 98, [.mapc none true (α := S_api_Kept) (S_api_Kept.mk [] []) E_api_Kept b22.f_vols])]) (ob := [(decide (0 ≤ v17 ∧ v17 < (List.length v11 : Int))) = true, (true = true → CX Try.prog 36 [.recs (α := List UInt8) [] E_string (((v11)[Int.toNat v17]?.getD Z_api_Container).f_Spec.f_Nets), .recs (α := List UInt8) [] E_string v13] (.recs (α := List UInt8) [] E_string r18)), (!((decide ((List.length r18 : Int) > 0)) == false) || decide (0 ≤ v17 ∧ v17 < (List.length v11 : Int))) = true, (((decide ((List.length r18 : Int) > 0)) == false) = true → CX Try.prog 36 [.recs (α := List UInt8) [] E_string (((v11)[Int.toNat v17]?.getD Z_api_Container).f_Spec.f_Vols), .recs (α := List UInt8) [] E_string v14] (.recs (α := List UInt8) [] E_string r19)), (!((bif (decide ((List.length r18 : Int) > 0)) then true else (decide ((List.length r19 : Int) > 0))) == false) || decide (0 ≤ v17 ∧ v17 < (List.length v11 : Int))) = true, (((bif (decide ((List.length r18 : Int) > 0)) then true else (decide ((List.length r19 : Int) > 0))) == false) = true → CX Try.prog 37 [.recs (α := List UInt8) [] E_string v12, .str (((v11)[Int.toNat v17]?.getD Z_api_Container).f_Spec.f_Name)] (.val (.bool r20))), (!((bif (bif (decide ((List.length r18 : Int) > 0)) then true else (decide ((List.length r19 : Int) > 0))) then true else r20) == false) || decide (0 ≤ v17 ∧ v17 < (List.length v11 : Int))) = true]) (by kernel_rfl) (AllP.cons hc24 (AllP.cons (fun _ => cx (ok_ref02_Without n (((v11)[Int.toNat v17]?.getD Z_api_Container).f_Spec.f_Nets) v13 _ hr18)) (AllP.cons hc25 (AllP.cons (fun hg => cx (ok_ref02_Without n (((v11)[Int.toNat v17]?.getD Z_api_Container).f_Spec.f_Vols) v14 _ (if_t hg hr19))) (AllP.cons hc26 (AllP.cons (fun hg => cx (ok_ref02_In n v12 (((v11)[Int.toNat v17]?.getD Z_api_Container).f_Spec.f_Name) _ (if_t hg hr20))) (AllP.cons hc27 AllP.nil))))))) ?_
      refine To.eq (K' := [(0, .recs (α := S_api_Call) (S_api_Call.mk 0 [] 0 Z_api_Spec) E_api_Call v0), (3, .own 22 0), (4, .val (.int .i64 v4)), (5, .val (.int .i64 v5)), (11, .recs (α := S_api_Container) Z_api_Container E_api_Container v11), (12, .row 1012), (13, .row 1013), (14, .row 1014), (17, .val (.int .i64 v17)), (165, .val (.bool x21))]) (L' := [(22, 100, [.mp 700882, .mp 700883, .mp 700884, .val (.int .i64 b22.f_last)]), (1012, 9, [.rowc true (α := List UInt8) [] E_string v12]), (1013, 9, [.rowc true (α := List UInt8) [] E_string v13]), (1014, 9, [.rowc true (α := List UInt8) [] E_string v14]), (700882, 96, [.mapc (some .i64) true (α := S_life_Box) Z_life_Box E_life_Box b22.f_boxes]), (700883, 98, [.mapc none true (α := S_api_Kept) (S_api_Kept.mk [] []) E_api_Kept b22.f_nets]), (700884, 98, [.mapc none true (α := S_api_Kept) (S_api_Kept.mk [] []) E_api_Kept b22.f_vols])]) (by cases hx21; rfl) (by cases hx21; rfl) ?_
      refine To.thenN ?_
      refine Wp.cond (b := x21) (by kernel_rfl) (fun hb => ?_) (fun hb => ?_)
      · replace h := if_t hb h
        refine Wp.seq ?_
        refine Wp.region hΓ [] [] [] [2] [] (K' := [(2, .val (.bool false))]) (L' := []) (ob := []) (by kernel_rfl) AllP.nil ?_
        refine To.thenN ?_
        refine Wp.ret ?_
        refine To.thenR ?_
        refine To.blockR ?_
        refine To.thenR ?_
        refine To.thenR ?_
        refine To.keep (kk := [2]) (kl := []) (K' := [(2, .val (.bool false))]) (L' := []) (by kernel_rfl) (by kernel_rfl) ?_
        cases h
        exact hQ
      · replace h := if_f hb h
        refine Wp.skip ?_
        refine To.thenN ?_
        obtain ⟨hc22, h⟩ := chk_of h
        obtain ⟨hc23, h⟩ := chk_of h
        refine Wp.region hΓ [] [(7, .recs (α := List UInt8) [] E_string ([((v11)[Int.toNat v17]?.getD Z_api_Container).f_Spec.f_Name])), (8, .recs (α := List UInt8) [] E_string (v12 ++ ([((v11)[Int.toNat v17]?.getD Z_api_Container).f_Spec.f_Name] : List (List UInt8))))] [] [0, 3, 4, 5, 11, 12, 13, 14, 17] [22, 174, 1013, 1014, 700882, 700883, 700884] (K' := [(0, .recs (α := S_api_Call) (S_api_Call.mk 0 [] 0 Z_api_Spec) E_api_Call v0), (3, .own 22 0), (4, .val (.int .i64 v4)), (5, .val (.int .i64 v5)), (11, .recs (α := S_api_Container) Z_api_Container E_api_Container v11), (12, .row 174), (13, .row 1013), (14, .row 1014), (17, .val (.int .i64 v17))]) (L' := [(22, 100, [.mp 700882, .mp 700883, .mp 700884, .val (.int .i64 b22.f_last)]), (174, 9, [.rowc true (α := List UInt8) [] E_string (v12 ++ ([((v11)[Int.toNat v17]?.getD Z_api_Container).f_Spec.f_Name] : List (List UInt8)))]), (1013, 9, [.rowc true (α := List UInt8) [] E_string v13]), (1014, 9, [.rowc true (α := List UInt8) [] E_string v14]), (700882, 96, [.mapc (some .i64) true (α := S_life_Box) Z_life_Box E_life_Box b22.f_boxes]), (700883, 98, [.mapc none true (α := S_api_Kept) (S_api_Kept.mk [] []) E_api_Kept b22.f_nets]), (700884, 98, [.mapc none true (α := S_api_Kept) (S_api_Kept.mk [] []) E_api_Kept b22.f_vols])]) (ob := [(decide (0 ≤ v17 ∧ v17 < (List.length v11 : Int))) = true, (MkOb 1 [.str (((v11)[Int.toNat v17]?.getD Z_api_Container).f_Spec.f_Name)] 1 (.recs (α := List UInt8) [] E_string ([((v11)[Int.toNat v17]?.getD Z_api_Container).f_Spec.f_Name])) ∧ GoodR (.recs (α := List UInt8) [] E_string ([((v11)[Int.toNat v17]?.getD Z_api_Container).f_Spec.f_Name]))), (decide ((List.length v12 + List.length ([((v11)[Int.toNat v17]?.getD Z_api_Container).f_Spec.f_Name] : List (List UInt8))) * (16 + 1) ≤ limit)) = true, (AppOb [] E_string v12 (List.flatMap E_string ([((v11)[Int.toNat v17]?.getD Z_api_Container).f_Spec.f_Name] : List (List UInt8))) (List.length ([((v11)[Int.toNat v17]?.getD Z_api_Container).f_Spec.f_Name] : List (List UInt8))) (.recs (α := List UInt8) [] E_string (v12 ++ ([((v11)[Int.toNat v17]?.getD Z_api_Container).f_Spec.f_Name] : List (List UInt8)))) ∧ GoodR (.recs (α := List UInt8) [] E_string (v12 ++ ([((v11)[Int.toNat v17]?.getD Z_api_Container).f_Spec.f_Name] : List (List UInt8)))))]) (by kernel_rfl) (AllP.cons hc22 (AllP.cons (mkOb (by kernel_rfl) rfl (by kernel_rfl) (good_E_string _)) (AllP.cons hc23 (AllP.cons (appOb rfl rfl (good_E_string _)) AllP.nil)))) ?_
        refine To.blockN ?_
        refine To.thenN ?_
        refine Wp.region hΓ [] [] [] [0, 3, 4, 5, 11, 12, 13, 14, 17] [22, 174, 1013, 1014, 700882, 700883, 700884] (K' := [(0, .recs (α := S_api_Call) (S_api_Call.mk 0 [] 0 Z_api_Spec) E_api_Call v0), (3, .own 22 0), (4, .val (.int .i64 v4)), (5, .val (.int .i64 v5)), (11, .recs (α := S_api_Container) Z_api_Container E_api_Container v11), (12, .row 174), (13, .row 1013), (14, .row 1014), (17, .val (.int .i64 (IntKind.wrap .i64 (v17 + 1))))]) (L' := [(22, 100, [.mp 700882, .mp 700883, .mp 700884, .val (.int .i64 b22.f_last)]), (174, 9, [.rowc true (α := List UInt8) [] E_string (v12 ++ ([((v11)[Int.toNat v17]?.getD Z_api_Container).f_Spec.f_Name] : List (List UInt8)))]), (1013, 9, [.rowc true (α := List UInt8) [] E_string v13]), (1014, 9, [.rowc true (α := List UInt8) [] E_string v14]), (700882, 96, [.mapc (some .i64) true (α := S_life_Box) Z_life_Box E_life_Box b22.f_boxes]), (700883, 98, [.mapc none true (α := S_api_Kept) (S_api_Kept.mk [] []) E_api_Kept b22.f_nets]), (700884, 98, [.mapc none true (α := S_api_Kept) (S_api_Kept.mk [] []) E_api_Kept b22.f_vols])]) (ob := []) (by kernel_rfl) AllP.nil ?_
        refine To.keep (kk := [0, 3, 4, 5, 11, 12, 13, 14, 17]) (kl := [22, 174, 1013, 1014, 700882, 700883, 700884]) (K' := [(0, .recs (α := S_api_Call) (S_api_Call.mk 0 [] 0 Z_api_Spec) E_api_Call v0), (3, .own 22 0), (4, .val (.int .i64 v4)), (5, .val (.int .i64 v5)), (11, .recs (α := S_api_Container) Z_api_Container E_api_Container v11), (12, .row 174), (13, .row 1013), (14, .row 1014), (17, .val (.int .i64 (IntKind.wrap .i64 (v17 + 1))))]) (L' := [(22, 100, [.mp 700882, .mp 700883, .mp 700884, .val (.int .i64 b22.f_last)]), (174, 9, [.rowc true (α := List UInt8) [] E_string (v12 ++ ([((v11)[Int.toNat v17]?.getD Z_api_Container).f_Spec.f_Name] : List (List UInt8)))]), (1013, 9, [.rowc true (α := List UInt8) [] E_string v13]), (1014, 9, [.rowc true (α := List UInt8) [] E_string v14]), (700882, 96, [.mapc (some .i64) true (α := S_life_Box) Z_life_Box E_life_Box b22.f_boxes]), (700883, 98, [.mapc none true (α := S_api_Kept) (S_api_Kept.mk [] []) E_api_Kept b22.f_nets]), (700884, 98, [.mapc none true (α := S_api_Kept) (S_api_Kept.mk [] []) E_api_Kept b22.f_vols])]) (by kernel_rfl) (by kernel_rfl) ?_
        refine To.pre (St.rename 174 1012 (by decide) (K' := [(0, .recs (α := S_api_Call) (S_api_Call.mk 0 [] 0 Z_api_Spec) E_api_Call v0), (3, .own 22 0), (4, .val (.int .i64 v4)), (5, .val (.int .i64 v5)), (11, .recs (α := S_api_Container) Z_api_Container E_api_Container v11), (12, .row 1012), (13, .row 1013), (14, .row 1014), (17, .val (.int .i64 (IntKind.wrap .i64 (v17 + 1))))]) (L' := [(22, 100, [.mp 700882, .mp 700883, .mp 700884, .val (.int .i64 b22.f_last)]), (1012, 9, [.rowc true (α := List UInt8) [] E_string (v12 ++ ([((v11)[Int.toNat v17]?.getD Z_api_Container).f_Spec.f_Name] : List (List UInt8)))]), (1013, 9, [.rowc true (α := List UInt8) [] E_string v13]), (1014, 9, [.rowc true (α := List UInt8) [] E_string v14]), (700882, 96, [.mapc (some .i64) true (α := S_life_Box) Z_life_Box E_life_Box b22.f_boxes]), (700883, 98, [.mapc none true (α := S_api_Kept) (S_api_Kept.mk [] []) E_api_Kept b22.f_nets]), (700884, 98, [.mapc none true (α := S_api_Kept) (S_api_Kept.mk [] []) E_api_Kept b22.f_vols])]) (by kernel_rfl) (by kernel_rfl) (by kernel_rfl)) ?_
        refine To.keep (kk := [0, 3, 4, 5, 11, 12, 13, 14, 17]) (kl := [22, 1012, 1013, 1014, 700882, 700883, 700884]) (K' := [(0, .recs (α := S_api_Call) (S_api_Call.mk 0 [] 0 Z_api_Spec) E_api_Call v0), (3, .own 22 0), (4, .val (.int .i64 v4)), (5, .val (.int .i64 v5)), (11, .recs (α := S_api_Container) Z_api_Container E_api_Container v11), (12, .row 1012), (13, .row 1013), (14, .row 1014), (17, .val (.int .i64 (IntKind.wrap .i64 (v17 + 1))))]) (L' := [(22, 100, [.mp 700882, .mp 700883, .mp 700884, .val (.int .i64 b22.f_last)]), (1012, 9, [.rowc true (α := List UInt8) [] E_string (v12 ++ ([((v11)[Int.toNat v17]?.getD Z_api_Container).f_Spec.f_Name] : List (List UInt8)))]), (1013, 9, [.rowc true (α := List UInt8) [] E_string v13]), (1014, 9, [.rowc true (α := List UInt8) [] E_string v14]), (700882, 96, [.mapc (some .i64) true (α := S_life_Box) Z_life_Box E_life_Box b22.f_boxes]), (700883, 98, [.mapc none true (α := S_api_Kept) (S_api_Kept.mk [] []) E_api_Kept b22.f_nets]), (700884, 98, [.mapc none true (α := S_api_Kept) (S_api_Kept.mk [] []) E_api_Kept b22.f_vols])]) (by kernel_rfl) (by kernel_rfl) ?_
        refine To.again ?_
        exact ih (v12 ++ ([((v11)[Int.toNat v17]?.getD Z_api_Container).f_Spec.f_Name] : List (List UInt8))) (IntKind.wrap .i64 (v17 + 1)) _ h hQ
    · replace h := if_f hb h
      refine Wp.exit ?_
      refine To.thenX ?_
      refine To.thenX ?_
      refine To.keep (kk := [0, 3, 4, 5]) (kl := [22, 700882, 700883, 700884]) (K' := [(0, .recs (α := S_api_Call) (S_api_Call.mk 0 [] 0 Z_api_Spec) E_api_Call v0), (3, .own 22 0), (4, .val (.int .i64 v4)), (5, .val (.int .i64 v5))]) (L' := [(22, 100, [.mp 700882, .mp 700883, .mp 700884, .val (.int .i64 b22.f_last)]), (700882, 96, [.mapc (some .i64) true (α := S_life_Box) Z_life_Box E_life_Box b22.f_boxes]), (700883, 98, [.mapc none true (α := S_api_Kept) (S_api_Kept.mk [] []) E_api_Kept b22.f_nets]), (700884, 98, [.mapc none true (α := S_api_Kept) (S_api_Kept.mk [] []) E_api_Kept b22.f_vols])]) (by kernel_rfl) (by kernel_rfl) ?_
      cases h
      exact hQ
def law33_StoreHolds_j2 (n : Nat) (v0 : List (S_api_Call)) (v4 : Int) (v5 : Int) (b22 : S_store_Store) : Option (Sum (Int × S_store_Store) (Bool)) :=
  (store_Store_Boxes__o0 n b22).bind fun r4 =>
  (store_Store_Nets__o0 n r4.2).bind fun r5 =>
  (store_Store_Vols__o0 n r5.2).bind fun r6 =>
  if (decide (0 ≤ v5 ∧ v5 < (List.length v0 : Int))) = true then ((store_Store_Do__o0 n ((v0)[Int.toNat v5]?.getD (S_api_Call.mk 0 [] 0 Z_api_Spec)) v5 r6.2).bind fun r7 =>
  (store_Store_Boxes__o0 n r7.2.2).bind fun r8 =>
  ((if ((r7.2.1 != 0) == true) = true then law33_SameBoxes n r4.1 r8.1 else some false)).bind fun r9 =>
  ((if (((!r9) == false) && ((r7.2.1 != 0) == true)) = true then store_Store_Nets__o0 n r8.2 else some ([], r8.2))).bind fun r10 =>
  ((if (((!r9) == false) && ((r7.2.1 != 0) == true)) = true then ref33_SameKept n r5.1 r10.1 else some false)).bind fun r11 =>
  ((if (((bif (!r9) then true else (!r11)) == false) && ((r7.2.1 != 0) == true)) = true then store_Store_Vols__o0 n r10.2 else some ([], r10.2))).bind fun r12 =>
  ((if (((bif (!r9) then true else (!r11)) == false) && ((r7.2.1 != 0) == true)) = true then ref33_SameKept n r6.1 r12.1 else some false)).bind fun r13 =>
  lett ((bif (r7.2.1 != 0) then (bif (bif (bif (!r9) then true else (!r11)) then true else (!r13)) then true else (r7.1 != 0)) else false) : Bool) fun x14 =>
  if x14 = true then (some (.inr false))
  else (if ((!((r7.2.1 == 0) == true) || decide (0 ≤ v5 ∧ v5 < (List.length v0 : Int)))) = true then ((law33_StoreHolds_j3 n v0 v4 v5 r7.1 r8.1 (bif (r7.2.1 == 0) then ((((v0)[Int.toNat v5]?.getD (S_api_Call.mk 0 [] 0 Z_api_Spec)).f_Kind) == 5) else false) r12.2).bind fun o15 =>
  (Sum.elim (fun o15 => (law33_StoreHolds_l4 n v0 o15 v5 r8.1 ([] : List (List UInt8)) ([] : List (List UInt8)) n ([] : List (List UInt8)) 0 r12.2).bind fun o16 =>
  (law33_StoreHolds_l5 n v0 o15 v5 r8.1 ([] : List (List UInt8)) o16.1 n ([] : List (List UInt8)) 0 o16.2).bind fun o17 =>
  (law33_StoreHolds_l6 n v0 o15 v5 r8.1 o16.1 o17.1 o17.2 n ([] : List (List UInt8)) 0).bind fun o18 =>
  (Sum.elim (fun o18 => some (.inl (o15, o17.2))) (fun o18 => some (.inr o18))) o18) (fun o15 => some (.inr o15))) o15) else none)) else none
theorem ok_law33_StoreHolds_j2 (n : Nat) (v0 : List (S_api_Call)) (v4 : Int) (v5 : Int) (b22 : S_store_Store) (o : Sum (Int × S_store_Store) (Bool)) (h : law33_StoreHolds_j2 n v0 v4 v5 b22 = some o) {F0 : Fz} {w0 : Pt Try.prog} {Q : Exit → Act → World → Prop} (hQ : (Sum.elim (fun s => To 176 F0 w0 [(0, .recs (α := S_api_Call) (S_api_Call.mk 0 [] 0 Z_api_Spec) E_api_Call v0), (3, .own 22 0), (4, .val (.int .i64 s.1)), (5, .val (.int .i64 v5))] [(22, 100, [.mp 700882, .mp 700883, .mp 700884, .val (.int .i64 s.2.f_last)]), (700882, 96, [.mapc (some .i64) true (α := S_life_Box) Z_life_Box E_life_Box s.2.f_boxes]), (700883, 98, [.mapc none true (α := S_api_Kept) (S_api_Kept.mk [] []) E_api_Kept s.2.f_nets]), (700884, 98, [.mapc none true (α := S_api_Kept) (S_api_Kept.mk [] []) E_api_Kept s.2.f_vols])] .normal Q) (fun s => To 176 F0 w0 [(2, .val (.bool s))] [] .ret Q)) o) : Wp Try.prog 176 F0 w0 [(0, .recs (α := S_api_Call) (S_api_Call.mk 0 [] 0 Z_api_Spec) E_api_Call v0), (3, .own 22 0), (4, .val (.int .i64 v4)), (5, .val (.int .i64 v5))] [(22, 100, [.mp 700882, .mp 700883, .mp 700884, .val (.int .i64 b22.f_last)]), (700882, 96, [.mapc (some .i64) true (α := S_life_Box) Z_life_Box E_life_Box b22.f_boxes]), (700883, 98, [.mapc none true (α := S_api_Kept) (S_api_Kept.mk [] []) E_api_Kept b22.f_nets]), (700884, 98, [.mapc none true (α := S_api_Kept) (S_api_Kept.mk [] []) E_api_Kept b22.f_vols])] (cA (cB (cI (cI (cB (cA (cB (cB (cB (cB (cF Try.f5))))))))))) Q := by
  unfold law33_StoreHolds_j2 at h
  refine Wp.block ?_
  refine Wp.seq ?_
  obtain ⟨r4, hr4, h⟩ := bind_of h
  obtain ⟨r5, hr5, h⟩ := bind_of h
  obtain ⟨r6, hr6, h⟩ := bind_of h
  refine Wp.region hΓ [] [] [(1, ⟨[(1000000, 22), (1010060, 700882), (1010061, 700883), (1010062, 700884)], [(1000000, 22), (1010060, 700882), (1010061, 700883), (1010062, 700884)], [.own 1000000 0], [(1000000, 100, [.mp 1010060, .mp 1010061, .mp 1010062, .val (.int .i64 b22.f_last)]), (1010060, 96, [.mapc (some .i64) true (α := S_life_Box) Z_life_Box E_life_Box b22.f_boxes]), (1010061, 98, [.mapc none true (α := S_api_Kept) (S_api_Kept.mk [] []) E_api_Kept b22.f_nets]), (1010062, 98, [.mapc none true (α := S_api_Kept) (S_api_Kept.mk [] []) E_api_Kept b22.f_vols])], .recs (α := S_api_Container) Z_api_Container E_api_Container r4.1, [(1000000, 100, [.mp 1010060, .mp 1010061, .mp 1010062, .val (.int .i64 r4.2.f_last)]), (1010060, 96, [.mapc (some .i64) true (α := S_life_Box) Z_life_Box E_life_Box r4.2.f_boxes]), (1010061, 98, [.mapc none true (α := S_api_Kept) (S_api_Kept.mk [] []) E_api_Kept r4.2.f_nets]), (1010062, 98, [.mapc none true (α := S_api_Kept) (S_api_Kept.mk [] []) E_api_Kept r4.2.f_vols])]⟩), (3, ⟨[(1000000, 22), (1010060, 700882), (1010061, 700883), (1010062, 700884)], [(1000000, 22), (1010060, 700882), (1010061, 700883), (1010062, 700884)], [.own 1000000 0], [(1000000, 100, [.mp 1010060, .mp 1010061, .mp 1010062, .val (.int .i64 r4.2.f_last)]), (1010060, 96, [.mapc (some .i64) true (α := S_life_Box) Z_life_Box E_life_Box r4.2.f_boxes]), (1010061, 98, [.mapc none true (α := S_api_Kept) (S_api_Kept.mk [] []) E_api_Kept r4.2.f_nets]), (1010062, 98, [.mapc none true (α := S_api_Kept) (S_api_Kept.mk [] []) E_api_Kept r4.2.f_vols])], .recs (α := S_api_Kept) (S_api_Kept.mk [] []) E_api_Kept r5.1, [(1000000, 100, [.mp 1010060, .mp 1010061, .mp 1010062, .val (.int .i64 r5.2.f_last)]), (1010060, 96, [.mapc (some .i64) true (α := S_life_Box) Z_life_Box E_life_Box r5.2.f_boxes]), (1010061, 98, [.mapc none true (α := S_api_Kept) (S_api_Kept.mk [] []) E_api_Kept r5.2.f_nets]), (1010062, 98, [.mapc none true (α := S_api_Kept) (S_api_Kept.mk [] []) E_api_Kept r5.2.f_vols])]⟩), (5, ⟨[(1000000, 22), (1010060, 700882), (1010061, 700883), (1010062, 700884)], [(1000000, 22), (1010060, 700882), (1010061, 700883), (1010062, 700884)], [.own 1000000 0], [(1000000, 100, [.mp 1010060, .mp 1010061, .mp 1010062, .val (.int .i64 r5.2.f_last)]), (1010060, 96, [.mapc (some .i64) true (α := S_life_Box) Z_life_Box E_life_Box r5.2.f_boxes]), (1010061, 98, [.mapc none true (α := S_api_Kept) (S_api_Kept.mk [] []) E_api_Kept r5.2.f_nets]), (1010062, 98, [.mapc none true (α := S_api_Kept) (S_api_Kept.mk [] []) E_api_Kept r5.2.f_vols])], .recs (α := S_api_Kept) (S_api_Kept.mk [] []) E_api_Kept r6.1, [(1000000, 100, [.mp 1010060, .mp 1010061, .mp 1010062, .val (.int .i64 r6.2.f_last)]), (1010060, 96, [.mapc (some .i64) true (α := S_life_Box) Z_life_Box E_life_Box r6.2.f_boxes]), (1010061, 98, [.mapc none true (α := S_api_Kept) (S_api_Kept.mk [] []) E_api_Kept r6.2.f_nets]), (1010062, 98, [.mapc none true (α := S_api_Kept) (S_api_Kept.mk [] []) E_api_Kept r6.2.f_vols])]⟩)] [0, 3, 4, 5, 6, 7, 8] [22, 700882, 700883, 700884] (K' := [(0, .recs (α := S_api_Call) (S_api_Call.mk 0 [] 0 Z_api_Spec) E_api_Call v0), (3, .own 22 0), (4, .val (.int .i64 v4)), (5, .val (.int .i64 v5)), (6, .recs (α := S_api_Container) Z_api_Container E_api_Container r4.1), (7, .recs (α := S_api_Kept) (S_api_Kept.mk [] []) E_api_Kept r5.1), (8, .recs (α := S_api_Kept) (S_api_Kept.mk [] []) E_api_Kept r6.1)]) (L' := [(22, 100, [.mp 700882, .mp 700883, .mp 700884, .val (.int .i64 r6.2.f_last)]), (700882, 96, [.mapc (some .i64) true (α := S_life_Box) Z_life_Box E_life_Box r6.2.f_boxes]), (700883, 98, [.mapc none true (α := S_api_Kept) (S_api_Kept.mk [] []) E_api_Kept r6.2.f_nets]), (700884, 98, [.mapc none true (α := S_api_Kept) (S_api_Kept.mk [] []) E_api_Kept r6.2.f_vols])]) (ob := [CbOb (CallsB Try.prog) 31 [.own 22 0] [some (100, [.mp 700882, .mp 700883, .mp 700884, .val (.int .i64 b22.f_last)]), some (96, [.mapc (some .i64) true (α := S_life_Box) Z_life_Box E_life_Box b22.f_boxes]), some (98, [.mapc none true (α := S_api_Kept) (S_api_Kept.mk [] []) E_api_Kept b22.f_nets]), some (98, [.mapc none true (α := S_api_Kept) (S_api_Kept.mk [] []) E_api_Kept b22.f_vols])] ⟨[(1000000, 22), (1010060, 700882), (1010061, 700883), (1010062, 700884)], [(1000000, 22), (1010060, 700882), (1010061, 700883), (1010062, 700884)], [.own 1000000 0], [(1000000, 100, [.mp 1010060, .mp 1010061, .mp 1010062, .val (.int .i64 b22.f_last)]), (1010060, 96, [.mapc (some .i64) true (α := S_life_Box) Z_life_Box E_life_Box b22.f_boxes]), (1010061, 98, [.mapc none true (α := S_api_Kept) (S_api_Kept.mk [] []) E_api_Kept b22.f_nets]), (1010062, 98, [.mapc none true (α := S_api_Kept) (S_api_Kept.mk [] []) E_api_Kept b22.f_vols])], .recs (α := S_api_Container) Z_api_Container E_api_Container r4.1, [(1000000, 100, [.mp 1010060, .mp 1010061, .mp 1010062, .val (.int .i64 r4.2.f_last)]), (1010060, 96, [.mapc (some .i64) true (α := S_life_Box) Z_life_Box E_life_Box r4.2.f_boxes]), (1010061, 98, [.mapc none true (α := S_api_Kept) (S_api_Kept.mk [] []) E_api_Kept r4.2.f_nets]), (1010062, 98, [.mapc none true (α := S_api_Kept) (S_api_Kept.mk [] []) E_api_Kept r4.2.f_vols])]⟩, CbOb (CallsB Try.prog) 32 [.own 22 0] [some (100, [.mp 700882, .mp 700883, .mp 700884, .val (.int .i64 r4.2.f_last)]), some (96, [.mapc (some .i64) true (α := S_life_Box) Z_life_Box E_life_Box r4.2.f_boxes]), some (98, [.mapc none true (α := S_api_Kept) (S_api_Kept.mk [] []) E_api_Kept r4.2.f_nets]), some (98, [.mapc none true (α := S_api_Kept) (S_api_Kept.mk [] []) E_api_Kept r4.2.f_vols])] ⟨[(1000000, 22), (1010060, 700882), (1010061, 700883), (1010062, 700884)], [(1000000, 22), (1010060, 700882), (1010061, 700883), (1010062, 700884)], [.own 1000000 0], [(1000000, 100, [.mp 1010060, .mp 1010061, .mp 1010062, .val (.int .i64 r4.2.f_last)]), (1010060, 96, [.mapc (some .i64) true (α := S_life_Box) Z_life_Box E_life_Box r4.2.f_boxes]), (1010061, 98, [.mapc none true (α := S_api_Kept) (S_api_Kept.mk [] []) E_api_Kept r4.2.f_nets]), (1010062, 98, [.mapc none true (α := S_api_Kept) (S_api_Kept.mk [] []) E_api_Kept r4.2.f_vols])], .recs (α := S_api_Kept) (S_api_Kept.mk [] []) E_api_Kept r5.1, [(1000000, 100, [.mp 1010060, .mp 1010061, .mp 1010062, .val (.int .i64 r5.2.f_last)]), (1010060, 96, [.mapc (some .i64) true (α := S_life_Box) Z_life_Box E_life_Box r5.2.f_boxes]), (1010061, 98, [.mapc none true (α := S_api_Kept) (S_api_Kept.mk [] []) E_api_Kept r5.2.f_nets]), (1010062, 98, [.mapc none true (α := S_api_Kept) (S_api_Kept.mk [] []) E_api_Kept r5.2.f_vols])]⟩, CbOb (CallsB Try.prog) 33 [.own 22 0] [some (100, [.mp 700882, .mp 700883, .mp 700884, .val (.int .i64 r5.2.f_last)]), some (96, [.mapc (some .i64) true (α := S_life_Box) Z_life_Box E_life_Box r5.2.f_boxes]), some (98, [.mapc none true (α := S_api_Kept) (S_api_Kept.mk [] []) E_api_Kept r5.2.f_nets]), some (98, [.mapc none true (α := S_api_Kept) (S_api_Kept.mk [] []) E_api_Kept r5.2.f_vols])] ⟨[(1000000, 22), (1010060, 700882), (1010061, 700883), (1010062, 700884)], [(1000000, 22), (1010060, 700882), (1010061, 700883), (1010062, 700884)], [.own 1000000 0], [(1000000, 100, [.mp 1010060, .mp 1010061, .mp 1010062, .val (.int .i64 r5.2.f_last)]), (1010060, 96, [.mapc (some .i64) true (α := S_life_Box) Z_life_Box E_life_Box r5.2.f_boxes]), (1010061, 98, [.mapc none true (α := S_api_Kept) (S_api_Kept.mk [] []) E_api_Kept r5.2.f_nets]), (1010062, 98, [.mapc none true (α := S_api_Kept) (S_api_Kept.mk [] []) E_api_Kept r5.2.f_vols])], .recs (α := S_api_Kept) (S_api_Kept.mk [] []) E_api_Kept r6.1, [(1000000, 100, [.mp 1010060, .mp 1010061, .mp 1010062, .val (.int .i64 r6.2.f_last)]), (1010060, 96, [.mapc (some .i64) true (α := S_life_Box) Z_life_Box E_life_Box r6.2.f_boxes]), (1010061, 98, [.mapc none true (α := S_api_Kept) (S_api_Kept.mk [] []) E_api_Kept r6.2.f_nets]), (1010062, 98, [.mapc none true (α := S_api_Kept) (S_api_Kept.mk [] []) E_api_Kept r6.2.f_vols])]⟩]) (by kernel_rfl) (AllP.cons (⟨(ok_store_Store_Boxes__o0 n b22 _ hr4), by kernel_rfl, by kernel_rfl⟩) (AllP.cons (⟨(ok_store_Store_Nets__o0 n r4.2 _ hr5), by kernel_rfl, by kernel_rfl⟩) (AllP.cons (⟨(ok_store_Store_Vols__o0 n r5.2 _ hr6), by kernel_rfl, by kernel_rfl⟩) AllP.nil))) ?_
  refine To.thenN ?_
  refine Wp.seq ?_
  obtain ⟨hc20, h⟩ := chk_of h
  obtain ⟨r7, hr7, h⟩ := bind_of h
  refine Wp.region hΓ [] [] [(6, ⟨[(1000000, 22), (1010060, 700882), (1010061, 700883), (1010062, 700884)], [(1000000, 22), (1010060, 700882), (1010061, 700883), (1010062, 700884)], [.own 1000000 0, .agg [.val (.int .i64 (((v0)[Int.toNat v5]?.getD (S_api_Call.mk 0 [] 0 Z_api_Spec)).f_Kind)), .str (((v0)[Int.toNat v5]?.getD (S_api_Call.mk 0 [] 0 Z_api_Spec)).f_Name), .val (.int .i64 (((v0)[Int.toNat v5]?.getD (S_api_Call.mk 0 [] 0 Z_api_Spec)).f_Id)), .str (((v0)[Int.toNat v5]?.getD (S_api_Call.mk 0 [] 0 Z_api_Spec)).f_Spec.f_Name), .str (((v0)[Int.toNat v5]?.getD (S_api_Call.mk 0 [] 0 Z_api_Spec)).f_Spec.f_Project), .str (((v0)[Int.toNat v5]?.getD (S_api_Call.mk 0 [] 0 Z_api_Spec)).f_Spec.f_Service), .val (.int .i64 (((v0)[Int.toNat v5]?.getD (S_api_Call.mk 0 [] 0 Z_api_Spec)).f_Spec.f_Number)), .str (((v0)[Int.toNat v5]?.getD (S_api_Call.mk 0 [] 0 Z_api_Spec)).f_Spec.f_Hash), .recs (α := List UInt8) [] E_string (((v0)[Int.toNat v5]?.getD (S_api_Call.mk 0 [] 0 Z_api_Spec)).f_Spec.f_Nets), .recs (α := List UInt8) [] E_string (((v0)[Int.toNat v5]?.getD (S_api_Call.mk 0 [] 0 Z_api_Spec)).f_Spec.f_Vols), .str (((v0)[Int.toNat v5]?.getD (S_api_Call.mk 0 [] 0 Z_api_Spec)).f_Spec.f_Health.f_Test), .val (.int .i64 (((v0)[Int.toNat v5]?.getD (S_api_Call.mk 0 [] 0 Z_api_Spec)).f_Spec.f_Health.f_Every)), .val (.int .i64 (((v0)[Int.toNat v5]?.getD (S_api_Call.mk 0 [] 0 Z_api_Spec)).f_Spec.f_Health.f_Start)), .val (.int .i64 (((v0)[Int.toNat v5]?.getD (S_api_Call.mk 0 [] 0 Z_api_Spec)).f_Spec.f_Health.f_Retries)), .val (.int .i64 (((v0)[Int.toNat v5]?.getD (S_api_Call.mk 0 [] 0 Z_api_Spec)).f_Spec.f_Restart)), .val (.int .i64 (((v0)[Int.toNat v5]?.getD (S_api_Call.mk 0 [] 0 Z_api_Spec)).f_Spec.f_Tries))], .val (.int .i64 v5)], [(1000000, 100, [.mp 1010060, .mp 1010061, .mp 1010062, .val (.int .i64 r6.2.f_last)]), (1010060, 96, [.mapc (some .i64) true (α := S_life_Box) Z_life_Box E_life_Box r6.2.f_boxes]), (1010061, 98, [.mapc none true (α := S_api_Kept) (S_api_Kept.mk [] []) E_api_Kept r6.2.f_nets]), (1010062, 98, [.mapc none true (α := S_api_Kept) (S_api_Kept.mk [] []) E_api_Kept r6.2.f_vols])], .tup [.val (.int .i64 r7.1), .val (.int .i64 r7.2.1)], [(1000000, 100, [.mp 1010060, .mp 1010061, .mp 1010062, .val (.int .i64 r7.2.2.f_last)]), (1010060, 96, [.mapc (some .i64) true (α := S_life_Box) Z_life_Box E_life_Box r7.2.2.f_boxes]), (1010061, 98, [.mapc none true (α := S_api_Kept) (S_api_Kept.mk [] []) E_api_Kept r7.2.2.f_nets]), (1010062, 98, [.mapc none true (α := S_api_Kept) (S_api_Kept.mk [] []) E_api_Kept r7.2.2.f_vols])]⟩)] [0, 3, 4, 5, 6, 7, 8, 9, 10] [22, 700882, 700883, 700884] (K' := [(0, .recs (α := S_api_Call) (S_api_Call.mk 0 [] 0 Z_api_Spec) E_api_Call v0), (3, .own 22 0), (4, .val (.int .i64 v4)), (5, .val (.int .i64 v5)), (6, .recs (α := S_api_Container) Z_api_Container E_api_Container r4.1), (7, .recs (α := S_api_Kept) (S_api_Kept.mk [] []) E_api_Kept r5.1), (8, .recs (α := S_api_Kept) (S_api_Kept.mk [] []) E_api_Kept r6.1), (9, .val (.int .i64 r7.1)), (10, .val (.int .i64 r7.2.1))]) (L' := [(22, 100, [.mp 700882, .mp 700883, .mp 700884, .val (.int .i64 r7.2.2.f_last)]), (700882, 96, [.mapc (some .i64) true (α := S_life_Box) Z_life_Box E_life_Box r7.2.2.f_boxes]), (700883, 98, [.mapc none true (α := S_api_Kept) (S_api_Kept.mk [] []) E_api_Kept r7.2.2.f_nets]), (700884, 98, [.mapc none true (α := S_api_Kept) (S_api_Kept.mk [] []) E_api_Kept r7.2.2.f_vols])]) (ob := [(decide (0 ≤ v5 ∧ v5 < (List.length v0 : Int))) = true, CbOb (CallsB Try.prog) 34 [.own 22 0, .agg [.val (.int .i64 (((v0)[Int.toNat v5]?.getD (S_api_Call.mk 0 [] 0 Z_api_Spec)).f_Kind)), .str (((v0)[Int.toNat v5]?.getD (S_api_Call.mk 0 [] 0 Z_api_Spec)).f_Name), .val (.int .i64 (((v0)[Int.toNat v5]?.getD (S_api_Call.mk 0 [] 0 Z_api_Spec)).f_Id)), .str (((v0)[Int.toNat v5]?.getD (S_api_Call.mk 0 [] 0 Z_api_Spec)).f_Spec.f_Name), .str (((v0)[Int.toNat v5]?.getD (S_api_Call.mk 0 [] 0 Z_api_Spec)).f_Spec.f_Project), .str (((v0)[Int.toNat v5]?.getD (S_api_Call.mk 0 [] 0 Z_api_Spec)).f_Spec.f_Service), .val (.int .i64 (((v0)[Int.toNat v5]?.getD (S_api_Call.mk 0 [] 0 Z_api_Spec)).f_Spec.f_Number)), .str (((v0)[Int.toNat v5]?.getD (S_api_Call.mk 0 [] 0 Z_api_Spec)).f_Spec.f_Hash), .recs (α := List UInt8) [] E_string (((v0)[Int.toNat v5]?.getD (S_api_Call.mk 0 [] 0 Z_api_Spec)).f_Spec.f_Nets), .recs (α := List UInt8) [] E_string (((v0)[Int.toNat v5]?.getD (S_api_Call.mk 0 [] 0 Z_api_Spec)).f_Spec.f_Vols), .str (((v0)[Int.toNat v5]?.getD (S_api_Call.mk 0 [] 0 Z_api_Spec)).f_Spec.f_Health.f_Test), .val (.int .i64 (((v0)[Int.toNat v5]?.getD (S_api_Call.mk 0 [] 0 Z_api_Spec)).f_Spec.f_Health.f_Every)), .val (.int .i64 (((v0)[Int.toNat v5]?.getD (S_api_Call.mk 0 [] 0 Z_api_Spec)).f_Spec.f_Health.f_Start)), .val (.int .i64 (((v0)[Int.toNat v5]?.getD (S_api_Call.mk 0 [] 0 Z_api_Spec)).f_Spec.f_Health.f_Retries)), .val (.int .i64 (((v0)[Int.toNat v5]?.getD (S_api_Call.mk 0 [] 0 Z_api_Spec)).f_Spec.f_Restart)), .val (.int .i64 (((v0)[Int.toNat v5]?.getD (S_api_Call.mk 0 [] 0 Z_api_Spec)).f_Spec.f_Tries))], .val (.int .i64 v5)] [some (100, [.mp 700882, .mp 700883, .mp 700884, .val (.int .i64 r6.2.f_last)]), some (96, [.mapc (some .i64) true (α := S_life_Box) Z_life_Box E_life_Box r6.2.f_boxes]), some (98, [.mapc none true (α := S_api_Kept) (S_api_Kept.mk [] []) E_api_Kept r6.2.f_nets]), some (98, [.mapc none true (α := S_api_Kept) (S_api_Kept.mk [] []) E_api_Kept r6.2.f_vols])] ⟨[(1000000, 22), (1010060, 700882), (1010061, 700883), (1010062, 700884)], [(1000000, 22), (1010060, 700882), (1010061, 700883), (1010062, 700884)], [.own 1000000 0, .agg [.val (.int .i64 (((v0)[Int.toNat v5]?.getD (S_api_Call.mk 0 [] 0 Z_api_Spec)).f_Kind)), .str (((v0)[Int.toNat v5]?.getD (S_api_Call.mk 0 [] 0 Z_api_Spec)).f_Name), .val (.int .i64 (((v0)[Int.toNat v5]?.getD (S_api_Call.mk 0 [] 0 Z_api_Spec)).f_Id)), .str (((v0)[Int.toNat v5]?.getD (S_api_Call.mk 0 [] 0 Z_api_Spec)).f_Spec.f_Name), .str (((v0)[Int.toNat v5]?.getD (S_api_Call.mk 0 [] 0 Z_api_Spec)).f_Spec.f_Project), .str (((v0)[Int.toNat v5]?.getD (S_api_Call.mk 0 [] 0 Z_api_Spec)).f_Spec.f_Service), .val (.int .i64 (((v0)[Int.toNat v5]?.getD (S_api_Call.mk 0 [] 0 Z_api_Spec)).f_Spec.f_Number)), .str (((v0)[Int.toNat v5]?.getD (S_api_Call.mk 0 [] 0 Z_api_Spec)).f_Spec.f_Hash), .recs (α := List UInt8) [] E_string (((v0)[Int.toNat v5]?.getD (S_api_Call.mk 0 [] 0 Z_api_Spec)).f_Spec.f_Nets), .recs (α := List UInt8) [] E_string (((v0)[Int.toNat v5]?.getD (S_api_Call.mk 0 [] 0 Z_api_Spec)).f_Spec.f_Vols), .str (((v0)[Int.toNat v5]?.getD (S_api_Call.mk 0 [] 0 Z_api_Spec)).f_Spec.f_Health.f_Test), .val (.int .i64 (((v0)[Int.toNat v5]?.getD (S_api_Call.mk 0 [] 0 Z_api_Spec)).f_Spec.f_Health.f_Every)), .val (.int .i64 (((v0)[Int.toNat v5]?.getD (S_api_Call.mk 0 [] 0 Z_api_Spec)).f_Spec.f_Health.f_Start)), .val (.int .i64 (((v0)[Int.toNat v5]?.getD (S_api_Call.mk 0 [] 0 Z_api_Spec)).f_Spec.f_Health.f_Retries)), .val (.int .i64 (((v0)[Int.toNat v5]?.getD (S_api_Call.mk 0 [] 0 Z_api_Spec)).f_Spec.f_Restart)), .val (.int .i64 (((v0)[Int.toNat v5]?.getD (S_api_Call.mk 0 [] 0 Z_api_Spec)).f_Spec.f_Tries))], .val (.int .i64 v5)], [(1000000, 100, [.mp 1010060, .mp 1010061, .mp 1010062, .val (.int .i64 r6.2.f_last)]), (1010060, 96, [.mapc (some .i64) true (α := S_life_Box) Z_life_Box E_life_Box r6.2.f_boxes]), (1010061, 98, [.mapc none true (α := S_api_Kept) (S_api_Kept.mk [] []) E_api_Kept r6.2.f_nets]), (1010062, 98, [.mapc none true (α := S_api_Kept) (S_api_Kept.mk [] []) E_api_Kept r6.2.f_vols])], .tup [.val (.int .i64 r7.1), .val (.int .i64 r7.2.1)], [(1000000, 100, [.mp 1010060, .mp 1010061, .mp 1010062, .val (.int .i64 r7.2.2.f_last)]), (1010060, 96, [.mapc (some .i64) true (α := S_life_Box) Z_life_Box E_life_Box r7.2.2.f_boxes]), (1010061, 98, [.mapc none true (α := S_api_Kept) (S_api_Kept.mk [] []) E_api_Kept r7.2.2.f_nets]), (1010062, 98, [.mapc none true (α := S_api_Kept) (S_api_Kept.mk [] []) E_api_Kept r7.2.2.f_vols])]⟩]) (by kernel_rfl) (AllP.cons hc20 (AllP.cons (⟨(ok_store_Store_Do__o0 n ((v0)[Int.toNat v5]?.getD (S_api_Call.mk 0 [] 0 Z_api_Spec)) v5 r6.2 _ hr7), by kernel_rfl, by kernel_rfl⟩) AllP.nil)) ?_
  refine To.thenN ?_
  refine Wp.seq ?_
  obtain ⟨r8, hr8, h⟩ := bind_of h
  refine Wp.region hΓ [] [] [(1, ⟨[(1000000, 22), (1010060, 700882), (1010061, 700883), (1010062, 700884)], [(1000000, 22), (1010060, 700882), (1010061, 700883), (1010062, 700884)], [.own 1000000 0], [(1000000, 100, [.mp 1010060, .mp 1010061, .mp 1010062, .val (.int .i64 r7.2.2.f_last)]), (1010060, 96, [.mapc (some .i64) true (α := S_life_Box) Z_life_Box E_life_Box r7.2.2.f_boxes]), (1010061, 98, [.mapc none true (α := S_api_Kept) (S_api_Kept.mk [] []) E_api_Kept r7.2.2.f_nets]), (1010062, 98, [.mapc none true (α := S_api_Kept) (S_api_Kept.mk [] []) E_api_Kept r7.2.2.f_vols])], .recs (α := S_api_Container) Z_api_Container E_api_Container r8.1, [(1000000, 100, [.mp 1010060, .mp 1010061, .mp 1010062, .val (.int .i64 r8.2.f_last)]), (1010060, 96, [.mapc (some .i64) true (α := S_life_Box) Z_life_Box E_life_Box r8.2.f_boxes]), (1010061, 98, [.mapc none true (α := S_api_Kept) (S_api_Kept.mk [] []) E_api_Kept r8.2.f_nets]), (1010062, 98, [.mapc none true (α := S_api_Kept) (S_api_Kept.mk [] []) E_api_Kept r8.2.f_vols])]⟩)] [0, 3, 4, 5, 6, 7, 8, 9, 10, 11] [22, 700882, 700883, 700884] (K' := [(0, .recs (α := S_api_Call) (S_api_Call.mk 0 [] 0 Z_api_Spec) E_api_Call v0), (3, .own 22 0), (4, .val (.int .i64 v4)), (5, .val (.int .i64 v5)), (6, .recs (α := S_api_Container) Z_api_Container E_api_Container r4.1), (7, .recs (α := S_api_Kept) (S_api_Kept.mk [] []) E_api_Kept r5.1), (8, .recs (α := S_api_Kept) (S_api_Kept.mk [] []) E_api_Kept r6.1), (9, .val (.int .i64 r7.1)), (10, .val (.int .i64 r7.2.1)), (11, .recs (α := S_api_Container) Z_api_Container E_api_Container r8.1)]) (L' := [(22, 100, [.mp 700882, .mp 700883, .mp 700884, .val (.int .i64 r8.2.f_last)]), (700882, 96, [.mapc (some .i64) true (α := S_life_Box) Z_life_Box E_life_Box r8.2.f_boxes]), (700883, 98, [.mapc none true (α := S_api_Kept) (S_api_Kept.mk [] []) E_api_Kept r8.2.f_nets]), (700884, 98, [.mapc none true (α := S_api_Kept) (S_api_Kept.mk [] []) E_api_Kept r8.2.f_vols])]) (ob := [CbOb (CallsB Try.prog) 31 [.own 22 0] [some (100, [.mp 700882, .mp 700883, .mp 700884, .val (.int .i64 r7.2.2.f_last)]), some (96, [.mapc (some .i64) true (α := S_life_Box) Z_life_Box E_life_Box r7.2.2.f_boxes]), some (98, [.mapc none true (α := S_api_Kept) (S_api_Kept.mk [] []) E_api_Kept r7.2.2.f_nets]), some (98, [.mapc none true (α := S_api_Kept) (S_api_Kept.mk [] []) E_api_Kept r7.2.2.f_vols])] ⟨[(1000000, 22), (1010060, 700882), (1010061, 700883), (1010062, 700884)], [(1000000, 22), (1010060, 700882), (1010061, 700883), (1010062, 700884)], [.own 1000000 0], [(1000000, 100, [.mp 1010060, .mp 1010061, .mp 1010062, .val (.int .i64 r7.2.2.f_last)]), (1010060, 96, [.mapc (some .i64) true (α := S_life_Box) Z_life_Box E_life_Box r7.2.2.f_boxes]), (1010061, 98, [.mapc none true (α := S_api_Kept) (S_api_Kept.mk [] []) E_api_Kept r7.2.2.f_nets]), (1010062, 98, [.mapc none true (α := S_api_Kept) (S_api_Kept.mk [] []) E_api_Kept r7.2.2.f_vols])], .recs (α := S_api_Container) Z_api_Container E_api_Container r8.1, [(1000000, 100, [.mp 1010060, .mp 1010061, .mp 1010062, .val (.int .i64 r8.2.f_last)]), (1010060, 96, [.mapc (some .i64) true (α := S_life_Box) Z_life_Box E_life_Box r8.2.f_boxes]), (1010061, 98, [.mapc none true (α := S_api_Kept) (S_api_Kept.mk [] []) E_api_Kept r8.2.f_nets]), (1010062, 98, [.mapc none true (α := S_api_Kept) (S_api_Kept.mk [] []) E_api_Kept r8.2.f_vols])]⟩]) (by kernel_rfl) (AllP.cons (⟨(ok_store_Store_Boxes__o0 n r7.2.2 _ hr8), by kernel_rfl, by kernel_rfl⟩) AllP.nil) ?_
  refine To.thenN ?_
  refine Wp.seq ?_
  refine Wp.seq ?_
  obtain ⟨r9, hr9, h⟩ := bind_of h
  obtain ⟨r10, hr10, h⟩ := bind_of h
  obtain ⟨r11, hr11, h⟩ := bind_of h
  obtain ⟨r12, hr12, h⟩ := bind_of h
  obtain ⟨r13, hr13, h⟩ := bind_of h
  obtain ⟨x14, hx14, h⟩ := lett_of h
  refine Wp.region hΓ [] [(5, .val (.bool r9)), (11, .val (.bool r11)), (18, .val (.bool r13))] [(10, ⟨[(1000000, 22), (1010060, 700882), (1010061, 700883), (1010062, 700884)], [(1000000, 22), (1010060, 700882), (1010061, 700883), (1010062, 700884)], [.own 1000000 0], [(1000000, 100, [.mp 1010060, .mp 1010061, .mp 1010062, .val (.int .i64 r8.2.f_last)]), (1010060, 96, [.mapc (some .i64) true (α := S_life_Box) Z_life_Box E_life_Box r8.2.f_boxes]), (1010061, 98, [.mapc none true (α := S_api_Kept) (S_api_Kept.mk [] []) E_api_Kept r8.2.f_nets]), (1010062, 98, [.mapc none true (α := S_api_Kept) (S_api_Kept.mk [] []) E_api_Kept r8.2.f_vols])], .recs (α := S_api_Kept) (S_api_Kept.mk [] []) E_api_Kept r10.1, [(1000000, 100, [.mp 1010060, .mp 1010061, .mp 1010062, .val (.int .i64 r10.2.f_last)]), (1010060, 96, [.mapc (some .i64) true (α := S_life_Box) Z_life_Box E_life_Box r10.2.f_boxes]), (1010061, 98, [.mapc none true (α := S_api_Kept) (S_api_Kept.mk [] []) E_api_Kept r10.2.f_nets]), (1010062, 98, [.mapc none true (α := S_api_Kept) (S_api_Kept.mk [] []) E_api_Kept r10.2.f_vols])]⟩), (17, ⟨[(1000000, 22), (1010060, 700882), (1010061, 700883), (1010062, 700884)], [(1000000, 22), (1010060, 700882), (1010061, 700883), (1010062, 700884)], [.own 1000000 0], [(1000000, 100, [.mp 1010060, .mp 1010061, .mp 1010062, .val (.int .i64 r10.2.f_last)]), (1010060, 96, [.mapc (some .i64) true (α := S_life_Box) Z_life_Box E_life_Box r10.2.f_boxes]), (1010061, 98, [.mapc none true (α := S_api_Kept) (S_api_Kept.mk [] []) E_api_Kept r10.2.f_nets]), (1010062, 98, [.mapc none true (α := S_api_Kept) (S_api_Kept.mk [] []) E_api_Kept r10.2.f_vols])], .recs (α := S_api_Kept) (S_api_Kept.mk [] []) E_api_Kept r12.1, [(1000000, 100, [.mp 1010060, .mp 1010061, .mp 1010062, .val (.int .i64 r12.2.f_last)]), (1010060, 96, [.mapc (some .i64) true (α := S_life_Box) Z_life_Box E_life_Box r12.2.f_boxes]), (1010061, 98, [.mapc none true (α := S_api_Kept) (S_api_Kept.mk [] []) E_api_Kept r12.2.f_nets]), (1010062, 98, [.mapc none true (α := S_api_Kept) (S_api_Kept.mk [] []) E_api_Kept r12.2.f_vols])]⟩)] [0, 3, 4, 5, 9, 10, 11, 72] [22, 700882, 700883, 700884] (K' := [(0, .recs (α := S_api_Call) (S_api_Call.mk 0 [] 0 Z_api_Spec) E_api_Call v0), (3, .own 22 0), (4, .val (.int .i64 v4)), (5, .val (.int .i64 v5)), (9, .val (.int .i64 r7.1)), (10, .val (.int .i64 r7.2.1)), (11, .recs (α := S_api_Container) Z_api_Container E_api_Container r8.1), (72, .val (.bool (bif (r7.2.1 != 0) then (bif (bif (bif (!r9) then true else (!r11)) then true else (!r13)) then true else (r7.1 != 0)) else false)))]) (L' := [(22, 100, [.mp 700882, .mp 700883, .mp 700884, .val (.int .i64 r12.2.f_last)]), (700882, 96, [.mapc (some .i64) true (α := S_life_Box) Z_life_Box E_life_Box r12.2.f_boxes]), (700883, 98, [.mapc none true (α := S_api_Kept) (S_api_Kept.mk [] []) E_api_Kept r12.2.f_nets]), (700884, 98, [.mapc none true (α := S_api_Kept) (S_api_Kept.mk [] []) E_api_Kept r12.2.f_vols])]) (ob := [(((r7.2.1 != 0) == true) = true → CX Try.prog 14 [.recs (α := S_api_Container) Z_api_Container E_api_Container r4.1, .recs (α := S_api_Container) Z_api_Container E_api_Container r8.1] (.val (.bool r9))), ((((!r9) == false) && ((r7.2.1 != 0) == true)) = true → CbOb (CallsB Try.prog) 32 [.own 22 0] [some (100, [.mp 700882, .mp 700883, .mp 700884, .val (.int .i64 r8.2.f_last)]), some (96, [.mapc (some .i64) true (α := S_life_Box) Z_life_Box E_life_Box r8.2.f_boxes]), some (98, [.mapc none true (α := S_api_Kept) (S_api_Kept.mk [] []) E_api_Kept r8.2.f_nets]), some (98, [.mapc none true (α := S_api_Kept) (S_api_Kept.mk [] []) E_api_Kept r8.2.f_vols])] ⟨[(1000000, 22), (1010060, 700882), (1010061, 700883), (1010062, 700884)], [(1000000, 22), (1010060, 700882), (1010061, 700883), (1010062, 700884)], [.own 1000000 0], [(1000000, 100, [.mp 1010060, .mp 1010061, .mp 1010062, .val (.int .i64 r8.2.f_last)]), (1010060, 96, [.mapc (some .i64) true (α := S_life_Box) Z_life_Box E_life_Box r8.2.f_boxes]), (1010061, 98, [.mapc none true (α := S_api_Kept) (S_api_Kept.mk [] []) E_api_Kept r8.2.f_nets]), (1010062, 98, [.mapc none true (α := S_api_Kept) (S_api_Kept.mk [] []) E_api_Kept r8.2.f_vols])], .recs (α := S_api_Kept) (S_api_Kept.mk [] []) E_api_Kept r10.1, [(1000000, 100, [.mp 1010060, .mp 1010061, .mp 1010062, .val (.int .i64 r10.2.f_last)]), (1010060, 96, [.mapc (some .i64) true (α := S_life_Box) Z_life_Box E_life_Box r10.2.f_boxes]), (1010061, 98, [.mapc none true (α := S_api_Kept) (S_api_Kept.mk [] []) E_api_Kept r10.2.f_nets]), (1010062, 98, [.mapc none true (α := S_api_Kept) (S_api_Kept.mk [] []) E_api_Kept r10.2.f_vols])]⟩), ((((!r9) == false) && ((r7.2.1 != 0) == true)) = false → KeepOb [(22, 100, [.mp 700882, .mp 700883, .mp 700884, .val (.int .i64 r8.2.f_last)]), (700882, 96, [.mapc (some .i64) true (α := S_life_Box) Z_life_Box E_life_Box r8.2.f_boxes]), (700883, 98, [.mapc none true (α := S_api_Kept) (S_api_Kept.mk [] []) E_api_Kept r8.2.f_nets]), (700884, 98, [.mapc none true (α := S_api_Kept) (S_api_Kept.mk [] []) E_api_Kept r8.2.f_vols])] ⟨[(1000000, 22), (1010060, 700882), (1010061, 700883), (1010062, 700884)], [(1000000, 22), (1010060, 700882), (1010061, 700883), (1010062, 700884)], [.own 1000000 0], [(1000000, 100, [.mp 1010060, .mp 1010061, .mp 1010062, .val (.int .i64 r8.2.f_last)]), (1010060, 96, [.mapc (some .i64) true (α := S_life_Box) Z_life_Box E_life_Box r8.2.f_boxes]), (1010061, 98, [.mapc none true (α := S_api_Kept) (S_api_Kept.mk [] []) E_api_Kept r8.2.f_nets]), (1010062, 98, [.mapc none true (α := S_api_Kept) (S_api_Kept.mk [] []) E_api_Kept r8.2.f_vols])], .recs (α := S_api_Kept) (S_api_Kept.mk [] []) E_api_Kept r10.1, [(1000000, 100, [.mp 1010060, .mp 1010061, .mp 1010062, .val (.int .i64 r10.2.f_last)]), (1010060, 96, [.mapc (some .i64) true (α := S_life_Box) Z_life_Box E_life_Box r10.2.f_boxes]), (1010061, 98, [.mapc none true (α := S_api_Kept) (S_api_Kept.mk [] []) E_api_Kept r10.2.f_nets]), (1010062, 98, [.mapc none true (α := S_api_Kept) (S_api_Kept.mk [] []) E_api_Kept r10.2.f_vols])]⟩), ((((!r9) == false) && ((r7.2.1 != 0) == true)) = true → CX Try.prog 35 [.recs (α := S_api_Kept) (S_api_Kept.mk [] []) E_api_Kept r5.1, .recs (α := S_api_Kept) (S_api_Kept.mk [] []) E_api_Kept r10.1] (.val (.bool r11))), ((((bif (!r9) then true else (!r11)) == false) && ((r7.2.1 != 0) == true)) = true → CbOb (CallsB Try.prog) 33 [.own 22 0] [some (100, [.mp 700882, .mp 700883, .mp 700884, .val (.int .i64 r10.2.f_last)]), some (96, [.mapc (some .i64) true (α := S_life_Box) Z_life_Box E_life_Box r10.2.f_boxes]), some (98, [.mapc none true (α := S_api_Kept) (S_api_Kept.mk [] []) E_api_Kept r10.2.f_nets]), some (98, [.mapc none true (α := S_api_Kept) (S_api_Kept.mk [] []) E_api_Kept r10.2.f_vols])] ⟨[(1000000, 22), (1010060, 700882), (1010061, 700883), (1010062, 700884)], [(1000000, 22), (1010060, 700882), (1010061, 700883), (1010062, 700884)], [.own 1000000 0], [(1000000, 100, [.mp 1010060, .mp 1010061, .mp 1010062, .val (.int .i64 r10.2.f_last)]), (1010060, 96, [.mapc (some .i64) true (α := S_life_Box) Z_life_Box E_life_Box r10.2.f_boxes]), (1010061, 98, [.mapc none true (α := S_api_Kept) (S_api_Kept.mk [] []) E_api_Kept r10.2.f_nets]), (1010062, 98, [.mapc none true (α := S_api_Kept) (S_api_Kept.mk [] []) E_api_Kept r10.2.f_vols])], .recs (α := S_api_Kept) (S_api_Kept.mk [] []) E_api_Kept r12.1, [(1000000, 100, [.mp 1010060, .mp 1010061, .mp 1010062, .val (.int .i64 r12.2.f_last)]), (1010060, 96, [.mapc (some .i64) true (α := S_life_Box) Z_life_Box E_life_Box r12.2.f_boxes]), (1010061, 98, [.mapc none true (α := S_api_Kept) (S_api_Kept.mk [] []) E_api_Kept r12.2.f_nets]), (1010062, 98, [.mapc none true (α := S_api_Kept) (S_api_Kept.mk [] []) E_api_Kept r12.2.f_vols])]⟩), ((((bif (!r9) then true else (!r11)) == false) && ((r7.2.1 != 0) == true)) = false → KeepOb [(22, 100, [.mp 700882, .mp 700883, .mp 700884, .val (.int .i64 r10.2.f_last)]), (700882, 96, [.mapc (some .i64) true (α := S_life_Box) Z_life_Box E_life_Box r10.2.f_boxes]), (700883, 98, [.mapc none true (α := S_api_Kept) (S_api_Kept.mk [] []) E_api_Kept r10.2.f_nets]), (700884, 98, [.mapc none true (α := S_api_Kept) (S_api_Kept.mk [] []) E_api_Kept r10.2.f_vols])] ⟨[(1000000, 22), (1010060, 700882), (1010061, 700883), (1010062, 700884)], [(1000000, 22), (1010060, 700882), (1010061, 700883), (1010062, 700884)], [.own 1000000 0], [(1000000, 100, [.mp 1010060, .mp 1010061, .mp 1010062, .val (.int .i64 r10.2.f_last)]), (1010060, 96, [.mapc (some .i64) true (α := S_life_Box) Z_life_Box E_life_Box r10.2.f_boxes]), (1010061, 98, [.mapc none true (α := S_api_Kept) (S_api_Kept.mk [] []) E_api_Kept r10.2.f_nets]), (1010062, 98, [.mapc none true (α := S_api_Kept) (S_api_Kept.mk [] []) E_api_Kept r10.2.f_vols])], .recs (α := S_api_Kept) (S_api_Kept.mk [] []) E_api_Kept r12.1, [(1000000, 100, [.mp 1010060, .mp 1010061, .mp 1010062, .val (.int .i64 r12.2.f_last)]), (1010060, 96, [.mapc (some .i64) true (α := S_life_Box) Z_life_Box E_life_Box r12.2.f_boxes]), (1010061, 98, [.mapc none true (α := S_api_Kept) (S_api_Kept.mk [] []) E_api_Kept r12.2.f_nets]), (1010062, 98, [.mapc none true (α := S_api_Kept) (S_api_Kept.mk [] []) E_api_Kept r12.2.f_vols])]⟩), ((((bif (!r9) then true else (!r11)) == false) && ((r7.2.1 != 0) == true)) = true → CX Try.prog 35 [.recs (α := S_api_Kept) (S_api_Kept.mk [] []) E_api_Kept r6.1, .recs (α := S_api_Kept) (S_api_Kept.mk [] []) E_api_Kept r12.1] (.val (.bool r13)))]) (by kernel_rfl) (AllP.cons (fun hg => cx (ok_law33_SameBoxes n r4.1 r8.1 _ (if_t hg hr9))) (AllP.cons (fun hg => ⟨(ok_store_Store_Nets__o0 n r8.2 _ (if_t hg hr10)), by kernel_rfl, by kernel_rfl⟩) (AllP.cons (fun hg => by cases if_f hg hr10; exact keepOb (by kernel_rfl)) (AllP.cons (fun hg => cx (ok_ref33_SameKept n r5.1 r10.1 _ (if_t hg hr11))) (AllP.cons (fun hg => ⟨(ok_store_Store_Vols__o0 n r10.2 _ (if_t hg hr12)), by kernel_rfl, by kernel_rfl⟩) (AllP.cons (fun hg => by cases if_f hg hr12; exact keepOb (by kernel_rfl)) (AllP.cons (fun hg => cx (ok_ref33_SameKept n r6.1 r12.1 _ (if_t hg hr13))) AllP.nil))))))) ?_
  refine To.eq (K' := [(0, .recs (α := S_api_Call) (S_api_Call.mk 0 [] 0 Z_api_Spec) E_api_Call v0), (3, .own 22 0), (4, .val (.int .i64 v4)), (5, .val (.int .i64 v5)), (9, .val (.int .i64 r7.1)), (10, .val (.int .i64 r7.2.1)), (11, .recs (α := S_api_Container) Z_api_Container E_api_Container r8.1), (72, .val (.bool x14))]) (L' := [(22, 100, [.mp 700882, .mp 700883, .mp 700884, .val (.int .i64 r12.2.f_last)]), (700882, 96, [.mapc (some .i64) true (α := S_life_Box) Z_life_Box E_life_Box r12.2.f_boxes]), (700883, 98, [.mapc none true (α := S_api_Kept) (S_api_Kept.mk [] []) E_api_Kept r12.2.f_nets]), (700884, 98, [.mapc none true (α := S_api_Kept) (S_api_Kept.mk [] []) E_api_Kept r12.2.f_vols])]) (by cases hx14; rfl) (by cases hx14; rfl) ?_
  refine To.thenN ?_
  refine Wp.cond (b := x14) (by kernel_rfl) (fun hb => ?_) (fun hb => ?_)
  · replace h := if_t hb h
    refine Wp.seq ?_
    refine Wp.region hΓ [] [] [] [2] [] (K' := [(2, .val (.bool false))]) (L' := []) (ob := []) (by kernel_rfl) AllP.nil ?_
    refine To.thenN ?_
    refine Wp.ret ?_
    refine To.thenR ?_
    refine To.blockR ?_
    refine To.keep (kk := [2]) (kl := []) (K' := [(2, .val (.bool false))]) (L' := []) (by kernel_rfl) (by kernel_rfl) ?_
    cases h
    exact hQ
  · replace h := if_f hb h
    refine Wp.skip ?_
    refine To.thenN ?_
    refine Wp.seq ?_
    refine Wp.seq ?_
    obtain ⟨hc19, h⟩ := chk_of h
    refine Wp.region hΓ [] [] [] [0, 3, 4, 5, 9, 11, 82] [22, 700882, 700883, 700884] (K' := [(0, .recs (α := S_api_Call) (S_api_Call.mk 0 [] 0 Z_api_Spec) E_api_Call v0), (3, .own 22 0), (4, .val (.int .i64 v4)), (5, .val (.int .i64 v5)), (9, .val (.int .i64 r7.1)), (11, .recs (α := S_api_Container) Z_api_Container E_api_Container r8.1), (82, .val (.bool (bif (r7.2.1 == 0) then ((((v0)[Int.toNat v5]?.getD (S_api_Call.mk 0 [] 0 Z_api_Spec)).f_Kind) == 5) else false)))]) (L' := [(22, 100, [.mp 700882, .mp 700883, .mp 700884, .val (.int .i64 r12.2.f_last)]), (700882, 96, [.mapc (some .i64) true (α := S_life_Box) Z_life_Box E_life_Box r12.2.f_boxes]), (700883, 98, [.mapc none true (α := S_api_Kept) (S_api_Kept.mk [] []) E_api_Kept r12.2.f_nets]), (700884, 98, [.mapc none true (α := S_api_Kept) (S_api_Kept.mk [] []) E_api_Kept r12.2.f_vols])]) (ob := [(!((r7.2.1 == 0) == true) || decide (0 ≤ v5 ∧ v5 < (List.length v0 : Int))) = true]) (by kernel_rfl) (AllP.cons hc19 AllP.nil) ?_
    refine To.thenN ?_
    obtain ⟨o15, ho15, h⟩ := bind_of h
    refine Wp.keep (kk := [0, 3, 4, 5, 9, 11, 82]) (kl := [22, 700882, 700883, 700884]) (K' := [(0, .recs (α := S_api_Call) (S_api_Call.mk 0 [] 0 Z_api_Spec) E_api_Call v0), (3, .own 22 0), (4, .val (.int .i64 v4)), (5, .val (.int .i64 v5)), (9, .val (.int .i64 r7.1)), (11, .recs (α := S_api_Container) Z_api_Container E_api_Container r8.1), (82, .val (.bool (bif (r7.2.1 == 0) then ((((v0)[Int.toNat v5]?.getD (S_api_Call.mk 0 [] 0 Z_api_Spec)).f_Kind) == 5) else false)))]) (L' := [(22, 100, [.mp 700882, .mp 700883, .mp 700884, .val (.int .i64 r12.2.f_last)]), (700882, 96, [.mapc (some .i64) true (α := S_life_Box) Z_life_Box E_life_Box r12.2.f_boxes]), (700883, 98, [.mapc none true (α := S_api_Kept) (S_api_Kept.mk [] []) E_api_Kept r12.2.f_nets]), (700884, 98, [.mapc none true (α := S_api_Kept) (S_api_Kept.mk [] []) E_api_Kept r12.2.f_vols])]) (by kernel_rfl) (by kernel_rfl) ?_
    refine ok_law33_StoreHolds_j3 n v0 v4 v5 r7.1 r8.1 (bif (r7.2.1 == 0) then ((((v0)[Int.toNat v5]?.getD (S_api_Call.mk 0 [] 0 Z_api_Spec)).f_Kind) == 5) else false) r12.2 o15 ho15 ?_
    rcases o15 with o15 | o15
    · replace h := sum_l h
      refine To.thenN ?_
      refine Wp.seq ?_
      refine Wp.region hΓ [] [] [] [0, 3, 4, 5, 11, 12, 13, 14] [22, 700882, 700883, 700884] (K' := [(0, .recs (α := S_api_Call) (S_api_Call.mk 0 [] 0 Z_api_Spec) E_api_Call v0), (3, .own 22 0), (4, .val (.int .i64 o15)), (5, .val (.int .i64 v5)), (11, .recs (α := S_api_Container) Z_api_Container E_api_Container r8.1), (12, .val (.slice none 0 0)), (13, .val (.slice none 0 0)), (14, .val (.slice none 0 0))]) (L' := [(22, 100, [.mp 700882, .mp 700883, .mp 700884, .val (.int .i64 r12.2.f_last)]), (700882, 96, [.mapc (some .i64) true (α := S_life_Box) Z_life_Box E_life_Box r12.2.f_boxes]), (700883, 98, [.mapc none true (α := S_api_Kept) (S_api_Kept.mk [] []) E_api_Kept r12.2.f_nets]), (700884, 98, [.mapc none true (α := S_api_Kept) (S_api_Kept.mk [] []) E_api_Kept r12.2.f_vols])]) (ob := []) (by kernel_rfl) AllP.nil ?_
      refine To.thenN ?_
      refine Wp.seq ?_
      refine Wp.seq ?_
      refine Wp.region hΓ [] [] [] [0, 3, 4, 5, 11, 12, 13, 14, 15] [22, 700882, 700883, 700884] (K' := [(0, .recs (α := S_api_Call) (S_api_Call.mk 0 [] 0 Z_api_Spec) E_api_Call v0), (3, .own 22 0), (4, .val (.int .i64 o15)), (5, .val (.int .i64 v5)), (11, .recs (α := S_api_Container) Z_api_Container E_api_Container r8.1), (12, .val (.slice none 0 0)), (13, .val (.slice none 0 0)), (14, .val (.slice none 0 0)), (15, .val (.int .i64 0))]) (L' := [(22, 100, [.mp 700882, .mp 700883, .mp 700884, .val (.int .i64 r12.2.f_last)]), (700882, 96, [.mapc (some .i64) true (α := S_life_Box) Z_life_Box E_life_Box r12.2.f_boxes]), (700883, 98, [.mapc none true (α := S_api_Kept) (S_api_Kept.mk [] []) E_api_Kept r12.2.f_nets]), (700884, 98, [.mapc none true (α := S_api_Kept) (S_api_Kept.mk [] []) E_api_Kept r12.2.f_vols])]) (ob := []) (by kernel_rfl) AllP.nil ?_
      refine To.thenN ?_
      refine Wp.block ?_
      obtain ⟨o16, ho16, h⟩ := bind_of h
      refine Wp.keep (kk := [0, 3, 4, 5, 11, 12, 13, 14, 15]) (kl := [22, 700882, 700883, 700884]) (K' := [(0, .recs (α := S_api_Call) (S_api_Call.mk 0 [] 0 Z_api_Spec) E_api_Call v0), (3, .own 22 0), (4, .val (.int .i64 o15)), (5, .val (.int .i64 v5)), (11, .recs (α := S_api_Container) Z_api_Container E_api_Container r8.1), (12, .val (.slice none 0 0)), (13, .val (.slice none 0 0)), (14, .val (.slice none 0 0)), (15, .val (.int .i64 0))]) (L' := [(22, 100, [.mp 700882, .mp 700883, .mp 700884, .val (.int .i64 r12.2.f_last)]), (700882, 96, [.mapc (some .i64) true (α := S_life_Box) Z_life_Box E_life_Box r12.2.f_boxes]), (700883, 98, [.mapc none true (α := S_api_Kept) (S_api_Kept.mk [] []) E_api_Kept r12.2.f_nets]), (700884, 98, [.mapc none true (α := S_api_Kept) (S_api_Kept.mk [] []) E_api_Kept r12.2.f_vols])]) (by kernel_rfl) (by kernel_rfl) ?_
      refine Wp.pre (St.vacant (t := 12) (k := 1012) (e := 9) (K' := [(0, .recs (α := S_api_Call) (S_api_Call.mk 0 [] 0 Z_api_Spec) E_api_Call v0), (3, .own 22 0), (4, .val (.int .i64 o15)), (5, .val (.int .i64 v5)), (11, .recs (α := S_api_Container) Z_api_Container E_api_Container r8.1), (12, .row 1012), (13, .val (.slice none 0 0)), (14, .val (.slice none 0 0)), (15, .val (.int .i64 0))]) (good_E_string _) (by decide) (by kernel_rfl) (by kernel_rfl)) ?_
      refine Wp.keep (kk := [0, 3, 4, 5, 11, 12, 13, 14, 15]) (kl := [22, 1012, 700882, 700883, 700884]) (K' := [(0, .recs (α := S_api_Call) (S_api_Call.mk 0 [] 0 Z_api_Spec) E_api_Call v0), (3, .own 22 0), (4, .val (.int .i64 o15)), (5, .val (.int .i64 v5)), (11, .recs (α := S_api_Container) Z_api_Container E_api_Container r8.1), (12, .row 1012), (13, .val (.slice none 0 0)), (14, .val (.slice none 0 0)), (15, .val (.int .i64 0))]) (L' := [(22, 100, [.mp 700882, .mp 700883, .mp 700884, .val (.int .i64 r12.2.f_last)]), (1012, 9, [.rowc false (α := List UInt8) [] E_string []]), (700882, 96, [.mapc (some .i64) true (α := S_life_Box) Z_life_Box E_life_Box r12.2.f_boxes]), (700883, 98, [.mapc none true (α := S_api_Kept) (S_api_Kept.mk [] []) E_api_Kept r12.2.f_nets]), (700884, 98, [.mapc none true (α := S_api_Kept) (S_api_Kept.mk [] []) E_api_Kept r12.2.f_vols])]) (by kernel_rfl) (by kernel_rfl) ?_
      refine Wp.pre (St.vacant (t := 13) (k := 1013) (e := 9) (K' := [(0, .recs (α := S_api_Call) (S_api_Call.mk 0 [] 0 Z_api_Spec) E_api_Call v0), (3, .own 22 0), (4, .val (.int .i64 o15)), (5, .val (.int .i64 v5)), (11, .recs (α := S_api_Container) Z_api_Container E_api_Container r8.1), (12, .row 1012), (13, .row 1013), (14, .val (.slice none 0 0)), (15, .val (.int .i64 0))]) (good_E_string _) (by decide) (by kernel_rfl) (by kernel_rfl)) ?_
      refine Wp.keep (kk := [0, 3, 4, 5, 11, 12, 13, 14, 15]) (kl := [22, 1012, 1013, 700882, 700883, 700884]) (K' := [(0, .recs (α := S_api_Call) (S_api_Call.mk 0 [] 0 Z_api_Spec) E_api_Call v0), (3, .own 22 0), (4, .val (.int .i64 o15)), (5, .val (.int .i64 v5)), (11, .recs (α := S_api_Container) Z_api_Container E_api_Container r8.1), (12, .row 1012), (13, .row 1013), (14, .val (.slice none 0 0)), (15, .val (.int .i64 0))]) (L' := [(22, 100, [.mp 700882, .mp 700883, .mp 700884, .val (.int .i64 r12.2.f_last)]), (1012, 9, [.rowc false (α := List UInt8) [] E_string []]), (1013, 9, [.rowc false (α := List UInt8) [] E_string []]), (700882, 96, [.mapc (some .i64) true (α := S_life_Box) Z_life_Box E_life_Box r12.2.f_boxes]), (700883, 98, [.mapc none true (α := S_api_Kept) (S_api_Kept.mk [] []) E_api_Kept r12.2.f_nets]), (700884, 98, [.mapc none true (α := S_api_Kept) (S_api_Kept.mk [] []) E_api_Kept r12.2.f_vols])]) (by kernel_rfl) (by kernel_rfl) ?_
      refine Wp.pre (St.vacant (t := 14) (k := 1014) (e := 9) (K' := [(0, .recs (α := S_api_Call) (S_api_Call.mk 0 [] 0 Z_api_Spec) E_api_Call v0), (3, .own 22 0), (4, .val (.int .i64 o15)), (5, .val (.int .i64 v5)), (11, .recs (α := S_api_Container) Z_api_Container E_api_Container r8.1), (12, .row 1012), (13, .row 1013), (14, .row 1014), (15, .val (.int .i64 0))]) (good_E_string _) (by decide) (by kernel_rfl) (by kernel_rfl)) ?_
      refine Wp.keep (kk := [0, 3, 4, 5, 11, 12, 13, 14, 15]) (kl := [22, 1012, 1013, 1014, 700882, 700883, 700884]) (K' := [(0, .recs (α := S_api_Call) (S_api_Call.mk 0 [] 0 Z_api_Spec) E_api_Call v0), (3, .own 22 0), (4, .val (.int .i64 o15)), (5, .val (.int .i64 v5)), (11, .recs (α := S_api_Container) Z_api_Container E_api_Container r8.1), (12, .row 1012), (13, .row 1013), (14, .row 1014), (15, .val (.int .i64 0))]) (L' := [(22, 100, [.mp 700882, .mp 700883, .mp 700884, .val (.int .i64 r12.2.f_last)]), (1012, 9, [.rowc false (α := List UInt8) [] E_string []]), (1013, 9, [.rowc false (α := List UInt8) [] E_string []]), (1014, 9, [.rowc false (α := List UInt8) [] E_string []]), (700882, 96, [.mapc (some .i64) true (α := S_life_Box) Z_life_Box E_life_Box r12.2.f_boxes]), (700883, 98, [.mapc none true (α := S_api_Kept) (S_api_Kept.mk [] []) E_api_Kept r12.2.f_nets]), (700884, 98, [.mapc none true (α := S_api_Kept) (S_api_Kept.mk [] []) E_api_Kept r12.2.f_vols])]) (by kernel_rfl) (by kernel_rfl) ?_
      refine Wp.loopL ?_
      refine ok_law33_StoreHolds_l4 n v0 o15 v5 r8.1 ([] : List (List UInt8)) ([] : List (List UInt8)) n ([] : List (List UInt8)) 0 r12.2 o16 ho16 ?_
      refine To.blockX ?_
      refine To.thenN ?_
      refine Wp.seq ?_
      refine Wp.seq ?_
      refine Wp.region hΓ [] [] [] [0, 3, 4, 5, 11, 12, 13, 14, 16] [22, 1012, 1013, 1014, 700882, 700883, 700884] (K' := [(0, .recs (α := S_api_Call) (S_api_Call.mk 0 [] 0 Z_api_Spec) E_api_Call v0), (3, .own 22 0), (4, .val (.int .i64 o15)), (5, .val (.int .i64 v5)), (11, .recs (α := S_api_Container) Z_api_Container E_api_Container r8.1), (12, .row 1012), (13, .row 1013), (14, .row 1014), (16, .val (.int .i64 0))]) (L' := [(22, 100, [.mp 700882, .mp 700883, .mp 700884, .val (.int .i64 o16.2.f_last)]), (1012, 9, [.rowc false (α := List UInt8) [] E_string []]), (1013, 9, [.rowc false (α := List UInt8) [] E_string o16.1]), (1014, 9, [.rowc false (α := List UInt8) [] E_string []]), (700882, 96, [.mapc (some .i64) true (α := S_life_Box) Z_life_Box E_life_Box o16.2.f_boxes]), (700883, 98, [.mapc none true (α := S_api_Kept) (S_api_Kept.mk [] []) E_api_Kept o16.2.f_nets]), (700884, 98, [.mapc none true (α := S_api_Kept) (S_api_Kept.mk [] []) E_api_Kept o16.2.f_vols])]) (ob := []) (by kernel_rfl) AllP.nil ?_
      refine To.thenN ?_
      refine Wp.block ?_
      obtain ⟨o17, ho17, h⟩ := bind_of h
      refine Wp.keep (kk := [0, 3, 4, 5, 11, 12, 13, 14, 16]) (kl := [22, 1012, 1013, 1014, 700882, 700883, 700884]) (K' := [(0, .recs (α := S_api_Call) (S_api_Call.mk 0 [] 0 Z_api_Spec) E_api_Call v0), (3, .own 22 0), (4, .val (.int .i64 o15)), (5, .val (.int .i64 v5)), (11, .recs (α := S_api_Container) Z_api_Container E_api_Container r8.1), (12, .row 1012), (13, .row 1013), (14, .row 1014), (16, .val (.int .i64 0))]) (L' := [(22, 100, [.mp 700882, .mp 700883, .mp 700884, .val (.int .i64 o16.2.f_last)]), (1012, 9, [.rowc false (α := List UInt8) [] E_string []]), (1013, 9, [.rowc false (α := List UInt8) [] E_string o16.1]), (1014, 9, [.rowc false (α := List UInt8) [] E_string []]), (700882, 96, [.mapc (some .i64) true (α := S_life_Box) Z_life_Box E_life_Box o16.2.f_boxes]), (700883, 98, [.mapc none true (α := S_api_Kept) (S_api_Kept.mk [] []) E_api_Kept o16.2.f_nets]), (700884, 98, [.mapc none true (α := S_api_Kept) (S_api_Kept.mk [] []) E_api_Kept o16.2.f_vols])]) (by kernel_rfl) (by kernel_rfl) ?_
      refine Wp.loopL ?_
      refine ok_law33_StoreHolds_l5 n v0 o15 v5 r8.1 ([] : List (List UInt8)) o16.1 n ([] : List (List UInt8)) 0 o16.2 o17 ho17 ?_
      refine To.blockX ?_
      refine To.thenN ?_
      refine Wp.seq ?_
      refine Wp.region hΓ [] [] [] [0, 3, 4, 5, 11, 12, 13, 14, 17] [22, 1012, 1013, 1014, 700882, 700883, 700884] (K' := [(0, .recs (α := S_api_Call) (S_api_Call.mk 0 [] 0 Z_api_Spec) E_api_Call v0), (3, .own 22 0), (4, .val (.int .i64 o15)), (5, .val (.int .i64 v5)), (11, .recs (α := S_api_Container) Z_api_Container E_api_Container r8.1), (12, .row 1012), (13, .row 1013), (14, .row 1014), (17, .val (.int .i64 0))]) (L' := [(22, 100, [.mp 700882, .mp 700883, .mp 700884, .val (.int .i64 o17.2.f_last)]), (1012, 9, [.rowc false (α := List UInt8) [] E_string []]), (1013, 9, [.rowc false (α := List UInt8) [] E_string o16.1]), (1014, 9, [.rowc false (α := List UInt8) [] E_string o17.1]), (700882, 96, [.mapc (some .i64) true (α := S_life_Box) Z_life_Box E_life_Box o17.2.f_boxes]), (700883, 98, [.mapc none true (α := S_api_Kept) (S_api_Kept.mk [] []) E_api_Kept o17.2.f_nets]), (700884, 98, [.mapc none true (α := S_api_Kept) (S_api_Kept.mk [] []) E_api_Kept o17.2.f_vols])]) (ob := []) (by kernel_rfl) AllP.nil ?_
      refine To.thenN ?_
      refine Wp.block ?_
      obtain ⟨o18, ho18, h⟩ := bind_of h
      refine Wp.keep (kk := [0, 3, 4, 5, 11, 12, 13, 14, 17]) (kl := [22, 1012, 1013, 1014, 700882, 700883, 700884]) (K' := [(0, .recs (α := S_api_Call) (S_api_Call.mk 0 [] 0 Z_api_Spec) E_api_Call v0), (3, .own 22 0), (4, .val (.int .i64 o15)), (5, .val (.int .i64 v5)), (11, .recs (α := S_api_Container) Z_api_Container E_api_Container r8.1), (12, .row 1012), (13, .row 1013), (14, .row 1014), (17, .val (.int .i64 0))]) (L' := [(22, 100, [.mp 700882, .mp 700883, .mp 700884, .val (.int .i64 o17.2.f_last)]), (1012, 9, [.rowc false (α := List UInt8) [] E_string []]), (1013, 9, [.rowc false (α := List UInt8) [] E_string o16.1]), (1014, 9, [.rowc false (α := List UInt8) [] E_string o17.1]), (700882, 96, [.mapc (some .i64) true (α := S_life_Box) Z_life_Box E_life_Box o17.2.f_boxes]), (700883, 98, [.mapc none true (α := S_api_Kept) (S_api_Kept.mk [] []) E_api_Kept o17.2.f_nets]), (700884, 98, [.mapc none true (α := S_api_Kept) (S_api_Kept.mk [] []) E_api_Kept o17.2.f_vols])]) (by kernel_rfl) (by kernel_rfl) ?_
      refine Wp.pre (St.settle (ks := [1012, 1013, 1014]) (kk := [0, 3, 4, 5, 11, 12, 13, 14, 17]) (kl := [22, 1012, 1013, 1014, 700882, 700883, 700884]) (K' := [(0, .recs (α := S_api_Call) (S_api_Call.mk 0 [] 0 Z_api_Spec) E_api_Call v0), (3, .own 22 0), (4, .val (.int .i64 o15)), (5, .val (.int .i64 v5)), (11, .recs (α := S_api_Container) Z_api_Container E_api_Container r8.1), (12, .row 1012), (13, .row 1013), (14, .row 1014), (17, .val (.int .i64 0))]) (L' := [(22, 100, [.mp 700882, .mp 700883, .mp 700884, .val (.int .i64 o17.2.f_last)]), (1012, 9, [.rowc true (α := List UInt8) [] E_string []]), (1013, 9, [.rowc true (α := List UInt8) [] E_string o16.1]), (1014, 9, [.rowc true (α := List UInt8) [] E_string o17.1]), (700882, 96, [.mapc (some .i64) true (α := S_life_Box) Z_life_Box E_life_Box o17.2.f_boxes]), (700883, 98, [.mapc none true (α := S_api_Kept) (S_api_Kept.mk [] []) E_api_Kept o17.2.f_nets]), (700884, 98, [.mapc none true (α := S_api_Kept) (S_api_Kept.mk [] []) E_api_Kept o17.2.f_vols])]) (by kernel_rfl)) ?_
      refine Wp.loopL ?_
      refine ok_law33_StoreHolds_l6 n v0 o15 v5 r8.1 o16.1 o17.1 o17.2 n ([] : List (List UInt8)) 0 o18 ho18 ?_
      rcases o18 with o18 | o18
      · replace h := sum_l h
        refine To.blockX ?_
        refine To.blockN ?_
        refine To.keep (kk := [0, 3, 4, 5]) (kl := [22, 700882, 700883, 700884]) (K' := [(0, .recs (α := S_api_Call) (S_api_Call.mk 0 [] 0 Z_api_Spec) E_api_Call v0), (3, .own 22 0), (4, .val (.int .i64 o15)), (5, .val (.int .i64 v5))]) (L' := [(22, 100, [.mp 700882, .mp 700883, .mp 700884, .val (.int .i64 o17.2.f_last)]), (700882, 96, [.mapc (some .i64) true (α := S_life_Box) Z_life_Box E_life_Box o17.2.f_boxes]), (700883, 98, [.mapc none true (α := S_api_Kept) (S_api_Kept.mk [] []) E_api_Kept o17.2.f_nets]), (700884, 98, [.mapc none true (α := S_api_Kept) (S_api_Kept.mk [] []) E_api_Kept o17.2.f_vols])]) (by kernel_rfl) (by kernel_rfl) ?_
        cases h
        exact hQ
      · replace h := sum_r h
        refine To.blockR ?_
        refine To.blockR ?_
        refine To.keep (kk := [2]) (kl := []) (K' := [(2, .val (.bool o18))]) (L' := []) (by kernel_rfl) (by kernel_rfl) ?_
        cases h
        exact hQ
    · replace h := sum_r h
      refine To.thenR ?_
      refine To.blockR ?_
      refine To.keep (kk := [2]) (kl := []) (K' := [(2, .val (.bool o15))]) (L' := []) (by kernel_rfl) (by kernel_rfl) ?_
      cases h
      exact hQ
def law33_StoreHolds_l1 (n : Nat) (v0 : List (S_api_Call)) : Nat → Int → Int → S_store_Store → Option (Sum (Unit) (Bool))
  | 0, _, _, _ => none
  | k + 1, v4, v5, b22 => if (decide (v5 < (List.length v0 : Int))) = true then ((law33_StoreHolds_j2 n v0 v4 v5 b22).bind fun o4 =>
  (Sum.elim (fun o4 => law33_StoreHolds_l1 n v0 k o4.1 (IntKind.wrap .i64 (v5 + 1)) o4.2) (fun o4 => some (.inr o4))) o4)
  else (some (.inl ()))
theorem ok_law33_StoreHolds_l1 (n : Nat) (v0 : List (S_api_Call)) {F0 : Fz} {w0 : Pt Try.prog} {Q : Exit → Act → World → Prop} (k : Nat) : ∀ (v4 : Int) (v5 : Int) (b22 : S_store_Store) (o : Sum (Unit) (Bool)), law33_StoreHolds_l1 n v0 k v4 v5 b22 = some o → (Sum.elim (fun s => To 176 F0 w0 [] [] (.exit 0) Q) (fun s => To 176 F0 w0 [(2, .val (.bool s))] [] .ret Q)) o → WL Try.prog 176 F0 w0 [(0, .recs (α := S_api_Call) (S_api_Call.mk 0 [] 0 Z_api_Spec) E_api_Call v0), (3, .own 22 0), (4, .val (.int .i64 v4)), (5, .val (.int .i64 v5))] [(22, 100, [.mp 700882, .mp 700883, .mp 700884, .val (.int .i64 b22.f_last)]), (700882, 96, [.mapc (some .i64) true (α := S_life_Box) Z_life_Box E_life_Box b22.f_boxes]), (700883, 98, [.mapc none true (α := S_api_Kept) (S_api_Kept.mk [] []) E_api_Kept b22.f_nets]), (700884, 98, [.mapc none true (α := S_api_Kept) (S_api_Kept.mk [] []) E_api_Kept b22.f_vols])] (cI (cI (cB (cA (cB (cB (cB (cB (cF Try.f5))))))))) Q := by
  induction k with
  | zero => intro v4 v5 b22 o h; cases h
  | succ k ih =>
    intro v4 v5 b22 o h hQ
    rw [law33_StoreHolds_l1] at h
    refine WL.round ?_
    refine Wp.seq ?_
    refine Wp.seq ?_
    refine Wp.region hΓ [] [] [] [0, 3, 4, 5, 26] [22, 700882, 700883, 700884] (K' := [(0, .recs (α := S_api_Call) (S_api_Call.mk 0 [] 0 Z_api_Spec) E_api_Call v0), (3, .own 22 0), (4, .val (.int .i64 v4)), (5, .val (.int .i64 v5)), (26, .val (.bool (decide (v5 < (List.length v0 : Int)))))]) (L' := [(22, 100, [.mp 700882, .mp 700883, .mp 700884, .val (.int .i64 b22.f_last)]), (700882, 96, [.mapc (some .i64) true (α := S_life_Box) Z_life_Box E_life_Box b22.f_boxes]), (700883, 98, [.mapc none true (α := S_api_Kept) (S_api_Kept.mk [] []) E_api_Kept b22.f_nets]), (700884, 98, [.mapc none true (α := S_api_Kept) (S_api_Kept.mk [] []) E_api_Kept b22.f_vols])]) (ob := []) (by kernel_rfl) AllP.nil ?_
    refine To.thenN ?_
    refine Wp.cond (b := (decide (v5 < (List.length v0 : Int)))) (by kernel_rfl) (fun hb => ?_) (fun hb => ?_)
    · replace h := if_t hb h
      refine Wp.skip ?_
      refine To.thenN ?_
      refine Wp.seq ?_
      obtain ⟨o4, ho4, h⟩ := bind_of h
      refine Wp.keep (kk := [0, 3, 4, 5]) (kl := [22, 700882, 700883, 700884]) (K' := [(0, .recs (α := S_api_Call) (S_api_Call.mk 0 [] 0 Z_api_Spec) E_api_Call v0), (3, .own 22 0), (4, .val (.int .i64 v4)), (5, .val (.int .i64 v5))]) (L' := [(22, 100, [.mp 700882, .mp 700883, .mp 700884, .val (.int .i64 b22.f_last)]), (700882, 96, [.mapc (some .i64) true (α := S_life_Box) Z_life_Box E_life_Box b22.f_boxes]), (700883, 98, [.mapc none true (α := S_api_Kept) (S_api_Kept.mk [] []) E_api_Kept b22.f_nets]), (700884, 98, [.mapc none true (α := S_api_Kept) (S_api_Kept.mk [] []) E_api_Kept b22.f_vols])]) (by kernel_rfl) (by kernel_rfl) ?_
      refine ok_law33_StoreHolds_j2 n v0 v4 v5 b22 o4 ho4 ?_
      rcases o4 with o4 | o4
      · replace h := sum_l h
        refine To.thenN ?_
        refine Wp.region hΓ [] [] [] [0, 3, 4, 5] [22, 700882, 700883, 700884] (K' := [(0, .recs (α := S_api_Call) (S_api_Call.mk 0 [] 0 Z_api_Spec) E_api_Call v0), (3, .own 22 0), (4, .val (.int .i64 o4.1)), (5, .val (.int .i64 (IntKind.wrap .i64 (v5 + 1))))]) (L' := [(22, 100, [.mp 700882, .mp 700883, .mp 700884, .val (.int .i64 o4.2.f_last)]), (700882, 96, [.mapc (some .i64) true (α := S_life_Box) Z_life_Box E_life_Box o4.2.f_boxes]), (700883, 98, [.mapc none true (α := S_api_Kept) (S_api_Kept.mk [] []) E_api_Kept o4.2.f_nets]), (700884, 98, [.mapc none true (α := S_api_Kept) (S_api_Kept.mk [] []) E_api_Kept o4.2.f_vols])]) (ob := []) (by kernel_rfl) AllP.nil ?_
        refine To.keep (kk := [0, 3, 4, 5]) (kl := [22, 700882, 700883, 700884]) (K' := [(0, .recs (α := S_api_Call) (S_api_Call.mk 0 [] 0 Z_api_Spec) E_api_Call v0), (3, .own 22 0), (4, .val (.int .i64 o4.1)), (5, .val (.int .i64 (IntKind.wrap .i64 (v5 + 1))))]) (L' := [(22, 100, [.mp 700882, .mp 700883, .mp 700884, .val (.int .i64 o4.2.f_last)]), (700882, 96, [.mapc (some .i64) true (α := S_life_Box) Z_life_Box E_life_Box o4.2.f_boxes]), (700883, 98, [.mapc none true (α := S_api_Kept) (S_api_Kept.mk [] []) E_api_Kept o4.2.f_nets]), (700884, 98, [.mapc none true (α := S_api_Kept) (S_api_Kept.mk [] []) E_api_Kept o4.2.f_vols])]) (by kernel_rfl) (by kernel_rfl) ?_
        refine To.again ?_
        exact ih o4.1 (IntKind.wrap .i64 (v5 + 1)) o4.2 _ h hQ
      · replace h := sum_r h
        refine To.thenR ?_
        refine To.thenR ?_
        refine To.keep (kk := [2]) (kl := []) (K' := [(2, .val (.bool o4))]) (L' := []) (by kernel_rfl) (by kernel_rfl) ?_
        cases h
        exact hQ
    · replace h := if_f hb h
      refine Wp.exit ?_
      refine To.thenX ?_
      refine To.thenX ?_
      refine To.keep (kk := []) (kl := []) (K' := []) (L' := []) (by kernel_rfl) (by kernel_rfl) ?_
      cases h
      exact hQ
def law33_StoreHolds (n : Nat) (a0 : List (S_api_Call)) : Option (Bool) :=
  (law33_Few n a0 80).bind fun r1 =>
  if (!r1) = true then ((law33_awake n).bind fun r2 =>
  some r2)
  else (lett (store_New_o) fun r3 =>
  (law33_StoreHolds_l1 n a0 n 0 0 r3).bind fun o4 =>
  (Sum.elim (fun o4 => (law33_awake n).bind fun r5 =>
  some r5) (fun o4 => some o4)) o4)
theorem ok_law33_StoreHolds (n : Nat) (a0 : List (S_api_Call)) (r : Bool) (h : law33_StoreHolds n a0 = some r) : CallsX Try.prog 5 [.recs (α := S_api_Call) (S_api_Call.mk 0 [] 0 Z_api_Spec) E_api_Call a0] (.val (.bool r)) := by
  unfold law33_StoreHolds at h
  refine callsX_of (fn := Try.f5) (by kernel_rfl) rfl (by kernel_rfl) (Nat.le_of_ble_eq_true (by kernel_rfl)) fun F0 w0 _ => ?_
  refine Wp.keep (kk := [0]) (kl := []) (K' := [(0, .recs (α := S_api_Call) (S_api_Call.mk 0 [] 0 Z_api_Spec) E_api_Call a0)]) (L' := []) (by kernel_rfl) (by kernel_rfl) ?_
  refine Wp.seq ?_
  refine Wp.region hΓ [] [] [] [0] [] (K' := [(0, .recs (α := S_api_Call) (S_api_Call.mk 0 [] 0 Z_api_Spec) E_api_Call a0)]) (L' := []) (ob := []) (by kernel_rfl) AllP.nil ?_
  refine To.thenN ?_
  refine Wp.seq ?_
  refine Wp.seq ?_
  obtain ⟨r1, hr1, h⟩ := bind_of h
  refine Wp.region hΓ [] [(1, .val (.bool r1))] [] [0, 20] [] (K' := [(0, .recs (α := S_api_Call) (S_api_Call.mk 0 [] 0 Z_api_Spec) E_api_Call a0), (20, .val (.bool (!r1)))]) (L' := []) (ob := [(true = true → CX Try.prog 28 [.recs (α := S_api_Call) (S_api_Call.mk 0 [] 0 Z_api_Spec) E_api_Call a0, .val (.int .i64 80)] (.val (.bool r1)))]) (by kernel_rfl) (AllP.cons (fun _ => cx (ok_law33_Few n a0 80 _ hr1)) AllP.nil) ?_
  refine To.thenN ?_
  refine Wp.cond (b := (!r1)) (by kernel_rfl) (fun hb => ?_) (fun hb => ?_)
  · replace h := if_t hb h
    refine Wp.seq ?_
    obtain ⟨r2, hr2, h⟩ := bind_of h
    refine Wp.region hΓ [] [(0, .val (.bool r2))] [] [2] [] (K' := [(2, .val (.bool r2))]) (L' := []) (ob := [(true = true → CX Try.prog 29 [] (.val (.bool r2)))]) (by kernel_rfl) (AllP.cons (fun _ => cx (ok_law33_awake n  _ hr2)) AllP.nil) ?_
    refine To.thenN ?_
    refine Wp.ret ?_
    refine To.thenR ?_
    refine To.keep (kk := [2]) (kl := []) (K' := [(2, .val (.bool r2))]) (L' := []) (by kernel_rfl) (by kernel_rfl) ?_
    cases h
    exact To.done hΓ (by kernel_rfl)
  · replace h := if_f hb h
    refine Wp.skip ?_
    refine To.thenN ?_
    refine Wp.seq ?_
    obtain ⟨r3, hr3, h⟩ := lett_of h
    refine Wp.region hΓ [] [] [(0, ⟨[], [(1, 22), (2, 700882), (3, 700883), (4, 700884)], [], [], .own 1 0, [(1, 100, [.mp 2, .mp 3, .mp 4, .val (.int .i64 r3.f_last)]), (2, 96, [.mapc (some .i64) true (α := S_life_Box) Z_life_Box E_life_Box r3.f_boxes]), (3, 98, [.mapc none true (α := S_api_Kept) (S_api_Kept.mk [] []) E_api_Kept r3.f_nets]), (4, 98, [.mapc none true (α := S_api_Kept) (S_api_Kept.mk [] []) E_api_Kept r3.f_vols])]⟩)] [0, 3] [22, 700882, 700883, 700884] (K' := [(0, .recs (α := S_api_Call) (S_api_Call.mk 0 [] 0 Z_api_Spec) E_api_Call a0), (3, .own 22 0)]) (L' := [(22, 100, [.mp 700882, .mp 700883, .mp 700884, .val (.int .i64 r3.f_last)]), (700882, 96, [.mapc (some .i64) true (α := S_life_Box) Z_life_Box E_life_Box r3.f_boxes]), (700883, 98, [.mapc none true (α := S_api_Kept) (S_api_Kept.mk [] []) E_api_Kept r3.f_nets]), (700884, 98, [.mapc none true (α := S_api_Kept) (S_api_Kept.mk [] []) E_api_Kept r3.f_vols])]) (ob := [CbOb (CallsB Try.prog) 30 [] [] ⟨[], [(1, 22), (2, 700882), (3, 700883), (4, 700884)], [], [], .own 1 0, [(1, 100, [.mp 2, .mp 3, .mp 4, .val (.int .i64 r3.f_last)]), (2, 96, [.mapc (some .i64) true (α := S_life_Box) Z_life_Box E_life_Box r3.f_boxes]), (3, 98, [.mapc none true (α := S_api_Kept) (S_api_Kept.mk [] []) E_api_Kept r3.f_nets]), (4, 98, [.mapc none true (α := S_api_Kept) (S_api_Kept.mk [] []) E_api_Kept r3.f_vols])]⟩]) (by kernel_rfl) (AllP.cons (⟨(ok_store_New_o  _ hr3), by kernel_rfl, by kernel_rfl⟩) AllP.nil) ?_
    refine To.thenN ?_
    refine Wp.seq ?_
    refine Wp.region hΓ [] [] [] [0, 3, 4] [22, 700882, 700883, 700884] (K' := [(0, .recs (α := S_api_Call) (S_api_Call.mk 0 [] 0 Z_api_Spec) E_api_Call a0), (3, .own 22 0), (4, .val (.int .i64 0))]) (L' := [(22, 100, [.mp 700882, .mp 700883, .mp 700884, .val (.int .i64 r3.f_last)]), (700882, 96, [.mapc (some .i64) true (α := S_life_Box) Z_life_Box E_life_Box r3.f_boxes]), (700883, 98, [.mapc none true (α := S_api_Kept) (S_api_Kept.mk [] []) E_api_Kept r3.f_nets]), (700884, 98, [.mapc none true (α := S_api_Kept) (S_api_Kept.mk [] []) E_api_Kept r3.f_vols])]) (ob := []) (by kernel_rfl) AllP.nil ?_
    refine To.thenN ?_
    refine Wp.seq ?_
    refine Wp.seq ?_
    refine Wp.region hΓ [] [] [] [0, 3, 4, 5] [22, 700882, 700883, 700884] (K' := [(0, .recs (α := S_api_Call) (S_api_Call.mk 0 [] 0 Z_api_Spec) E_api_Call a0), (3, .own 22 0), (4, .val (.int .i64 0)), (5, .val (.int .i64 0))]) (L' := [(22, 100, [.mp 700882, .mp 700883, .mp 700884, .val (.int .i64 r3.f_last)]), (700882, 96, [.mapc (some .i64) true (α := S_life_Box) Z_life_Box E_life_Box r3.f_boxes]), (700883, 98, [.mapc none true (α := S_api_Kept) (S_api_Kept.mk [] []) E_api_Kept r3.f_nets]), (700884, 98, [.mapc none true (α := S_api_Kept) (S_api_Kept.mk [] []) E_api_Kept r3.f_vols])]) (ob := []) (by kernel_rfl) AllP.nil ?_
    refine To.thenN ?_
    refine Wp.block ?_
    obtain ⟨o4, ho4, h⟩ := bind_of h
    refine Wp.keep (kk := [0, 3, 4, 5]) (kl := [22, 700882, 700883, 700884]) (K' := [(0, .recs (α := S_api_Call) (S_api_Call.mk 0 [] 0 Z_api_Spec) E_api_Call a0), (3, .own 22 0), (4, .val (.int .i64 0)), (5, .val (.int .i64 0))]) (L' := [(22, 100, [.mp 700882, .mp 700883, .mp 700884, .val (.int .i64 r3.f_last)]), (700882, 96, [.mapc (some .i64) true (α := S_life_Box) Z_life_Box E_life_Box r3.f_boxes]), (700883, 98, [.mapc none true (α := S_api_Kept) (S_api_Kept.mk [] []) E_api_Kept r3.f_nets]), (700884, 98, [.mapc none true (α := S_api_Kept) (S_api_Kept.mk [] []) E_api_Kept r3.f_vols])]) (by kernel_rfl) (by kernel_rfl) ?_
    refine Wp.loopL ?_
    refine ok_law33_StoreHolds_l1 n a0 n 0 0 r3 o4 ho4 ?_
    rcases o4 with o4 | o4
    · replace h := sum_l h
      refine To.blockX ?_
      refine To.thenN ?_
      refine Wp.seq ?_
      obtain ⟨r5, hr5, h⟩ := bind_of h
      refine Wp.region hΓ [] [(0, .val (.bool r5))] [] [2] [] (K' := [(2, .val (.bool r5))]) (L' := []) (ob := [(true = true → CX Try.prog 29 [] (.val (.bool r5)))]) (by kernel_rfl) (AllP.cons (fun _ => cx (ok_law33_awake n  _ hr5)) AllP.nil) ?_
      refine To.thenN ?_
      refine Wp.ret ?_
      refine To.keep (kk := [2]) (kl := []) (K' := [(2, .val (.bool r5))]) (L' := []) (by kernel_rfl) (by kernel_rfl) ?_
      cases h
      exact To.done hΓ (by kernel_rfl)
    · replace h := sum_r h
      refine To.blockR ?_
      refine To.thenR ?_
      refine To.keep (kk := [2]) (kl := []) (K' := [(2, .val (.bool o4))]) (L' := []) (by kernel_rfl) (by kernel_rfl) ?_
      cases h
      exact To.done hΓ (by kernel_rfl)
theorem opens_i64 : Opens Try.prog 3 (fun n : Int => IntKind.min .i64 ≤ n ∧ n ≤ IntKind.max .i64) (fun n => [.val (.int .i64 n)]) := opens_int (by kernel_rfl)
theorem opens_string : Opens Try.prog 9 (fun l : List UInt8 => l.length ≤ maxLen) (fun l => [.str l]) := opens_str (by kernel_rfl)
def W_Lstring (l : List (List UInt8)) : Prop := l.length ≤ maxLen ∧ ∀ x ∈ l, (List.length x ≤ maxLen)
theorem opens_Lstring : Opens Try.prog 27 W_Lstring (fun l => [.recs (α := List UInt8) [] E_string l]) := opens_slice (α := List UInt8) (cells := E_string) [] (by kernel_rfl) (by kernel_rfl) (of_decide_eq_true (by kernel_rfl)) opens_string
def W_api_Check (x : S_api_Check) : Prop := (List.length x.f_Test ≤ maxLen) ∧ (IntKind.min .i64 ≤ x.f_Every ∧ x.f_Every ≤ IntKind.max .i64) ∧ (IntKind.min .i64 ≤ x.f_Start ∧ x.f_Start ≤ IntKind.max .i64) ∧ (IntKind.min .i64 ≤ x.f_Retries ∧ x.f_Retries ≤ IntKind.max .i64)
theorem opens_api_Check : Opens Try.prog 39 W_api_Check (fun x => [.str x.f_Test, .val (.int .i64 x.f_Every), .val (.int .i64 x.f_Start), .val (.int .i64 x.f_Retries)]) := by
  intro H enc W fuel cs d ps h
  obtain ⟨hl, hf⟩ := field_of Try.underlying39 h
  have hl : cs.length = 4 := hl.trans (by kernel_rfl)
  obtain ⟨x0, w0, r0⟩ := hf 0 _ rfl opens_string
  have r0 := repAt (a' := 0) (b' := 1) r0 (by kernel_rfl) (by kernel_rfl)
  obtain ⟨x1, w1, r1⟩ := hf 1 _ rfl opens_i64
  have r1 := repAt (a' := 1) (b' := 1) r1 (by kernel_rfl) (by kernel_rfl)
  obtain ⟨x2, w2, r2⟩ := hf 2 _ rfl opens_i64
  have r2 := repAt (a' := 2) (b' := 1) r2 (by kernel_rfl) (by kernel_rfl)
  obtain ⟨x3, w3, r3⟩ := hf 3 _ rfl opens_i64
  have r3 := repAt (a' := 3) (b' := 1) r3 (by kernel_rfl) (by kernel_rfl)
  refine ⟨⟨x0, x1, x2, x3⟩, ⟨w0, w1, w2, w3⟩, ?_⟩
  refine parts_all (l := [([.str x0], 1), ([.val (.int .i64 x1)], 1), ([.val (.int .i64 x2)], 1), ([.val (.int .i64 x3)], 1)]) ⟨r0, r1, r2, r3, Nat.le_of_eq hl⟩ rfl
def W_api_Spec (x : S_api_Spec) : Prop := (List.length x.f_Name ≤ maxLen) ∧ (List.length x.f_Project ≤ maxLen) ∧ (List.length x.f_Service ≤ maxLen) ∧ (IntKind.min .i64 ≤ x.f_Number ∧ x.f_Number ≤ IntKind.max .i64) ∧ (List.length x.f_Hash ≤ maxLen) ∧ (W_Lstring x.f_Nets) ∧ (W_Lstring x.f_Vols) ∧ (W_api_Check x.f_Health) ∧ (IntKind.min .i64 ≤ x.f_Restart ∧ x.f_Restart ≤ IntKind.max .i64) ∧ (IntKind.min .i64 ≤ x.f_Tries ∧ x.f_Tries ≤ IntKind.max .i64)
end Go.Proofs.Ytaecmkldkljioaa.M
