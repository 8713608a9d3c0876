/-
  Part of the proof of StoreHolds: M33a.
-/
import Derived.Test.YtaecmkldkljioaaQRxAnyD
import Derived.Test.YtaecmkldkljioaaQRxArgs
import Derived.Test.YtaecmkldkljioaaQRxGoto
import Derived.Test.YtaecmkldkljioaaQRxNil
import Derived.Test.YtaecmkldkljioaaQRxOrd
import Derived.Test.YtaecmkldkljioaaQRxEqArr
import Derived.Test.YtaecmkldkljioaaQRxEnd
import Derived.Test.YtaecmkldkljioaaQRxRange
import Derived.Test.YtaecmkldkljioaaQRxKeysI
import Derived.Test.YtaecmkldkljioaaQSh33
import Derived.Test.YtaecmkldkljioaaProg
set_option linter.all false
namespace Go.Proofs.Ytaecmkldkljioaa.M
open Go.RowKit Go.Proofs.Ytaecmkldkljioaa.RX
set_option maxRecDepth 100000
def tab : List (Nat × TI) := [
  (3, { agg := false, size := 1, zero := [.int .i64 0], kind := .int .i64, eqs := [] }),
  (4, { agg := false, size := 1, zero := [.bool false], kind := .bool, eqs := [] }),
  (9, { agg := false, size := 1, zero := [.string ⟨#[]⟩], kind := .str, eqs := [] }),
  (22, { agg := false, size := 1, zero := [.slice none 0 0], kind := .slice 18 true, elt := 49, eb := 216, ez := [.int .i64 0, .string ⟨#[]⟩, .string ⟨#[]⟩, .string ⟨#[]⟩, .int .i64 0, .string ⟨#[]⟩, .slice none 0 0, .slice none 0 0, .string ⟨#[]⟩, .int .i64 0, .int .i64 0, .int .i64 0, .int .i64 0, .int .i64 0, .int .i64 0, .int .i64 0, .int .i64 0, .int .i64 0], ek := none, eqs := [] }),
  (23, { agg := false, size := 1, zero := [.slice none 0 0], kind := .slice 2 true, elt := 78, eb := 32, ez := [.string ⟨#[]⟩, .string ⟨#[]⟩], ek := none, eqs := [] }),
  (27, { agg := false, size := 1, zero := [.slice none 0 0], kind := .slice 1 false, elt := 9, eb := 16, ez := [.string ⟨#[]⟩], ek := none, eqs := [] }),
  (39, { agg := true, size := 4, zero := [.string ⟨#[]⟩, .int .i64 0, .int .i64 0, .int .i64 0], kind := .struct [(0, 1, false), (1, 1, false), (2, 1, false), (3, 1, false)], eqs := [2, 0, 0, 0] }),
  (47, { agg := true, size := 13, zero := [.string ⟨#[]⟩, .string ⟨#[]⟩, .string ⟨#[]⟩, .int .i64 0, .string ⟨#[]⟩, .slice none 0 0, .slice none 0 0, .string ⟨#[]⟩, .int .i64 0, .int .i64 0, .int .i64 0, .int .i64 0, .int .i64 0], kind := .struct [(0, 1, false), (1, 1, false), (2, 1, false), (3, 1, false), (4, 1, false), (5, 1, false), (6, 1, false), (7, 4, true), (11, 1, false), (12, 1, false)], eqs := [] }),
  (49, { agg := true, size := 18, zero := [.int .i64 0, .string ⟨#[]⟩, .string ⟨#[]⟩, .string ⟨#[]⟩, .int .i64 0, .string ⟨#[]⟩, .slice none 0 0, .slice none 0 0, .string ⟨#[]⟩, .int .i64 0, .int .i64 0, .int .i64 0, .int .i64 0, .int .i64 0, .int .i64 0, .int .i64 0, .int .i64 0, .int .i64 0], kind := .struct [(0, 1, false), (1, 13, true), (14, 1, false), (15, 1, false), (16, 1, false), (17, 1, false)], eqs := [] }),
  (65, { agg := false, size := 1, zero := [.slice none 0 0], kind := .slice 16 true, elt := 75, eb := 208, ez := [.int .i64 0, .string ⟨#[]⟩, .int .i64 0, .string ⟨#[]⟩, .string ⟨#[]⟩, .string ⟨#[]⟩, .int .i64 0, .string ⟨#[]⟩, .slice none 0 0, .slice none 0 0, .string ⟨#[]⟩, .int .i64 0, .int .i64 0, .int .i64 0, .int .i64 0, .int .i64 0], ek := none, eqs := [] }),
  (67, { agg := false, size := 1, zero := [.pointer none], kind := .ptr, eqs := [] }),
  (75, { agg := true, size := 16, zero := [.int .i64 0, .string ⟨#[]⟩, .int .i64 0, .string ⟨#[]⟩, .string ⟨#[]⟩, .string ⟨#[]⟩, .int .i64 0, .string ⟨#[]⟩, .slice none 0 0, .slice none 0 0, .string ⟨#[]⟩, .int .i64 0, .int .i64 0, .int .i64 0, .int .i64 0, .int .i64 0], kind := .struct [(0, 1, false), (1, 1, false), (2, 1, false), (3, 13, true)], eqs := [] }),
  (78, { agg := true, size := 2, zero := [.string ⟨#[]⟩, .string ⟨#[]⟩], kind := .struct [(0, 1, false), (1, 1, false)], eqs := [2, 2] }),
  (83, { agg := true, size := 4, zero := [.int .i64 0, .int .i64 0, .int .i64 0, .int .i64 0], kind := .struct [(0, 1, false), (1, 1, false), (2, 1, false), (3, 1, false)], eqs := [] }),
  (85, { agg := true, size := 25, zero := [.string ⟨#[]⟩, .string ⟨#[]⟩, .string ⟨#[]⟩, .int .i64 0, .string ⟨#[]⟩, .slice none 0 0, .slice none 0 0, .string ⟨#[]⟩, .int .i64 0, .int .i64 0, .int .i64 0, .int .i64 0, .int .i64 0, .int .i64 0, .int .i64 0, .int .i64 0, .int .i64 0, .int .i64 0, .int .i64 0, .bool false, .bool false, .int .i64 0, .int .i64 0, .int .i64 0, .int .i64 0], kind := .struct [(0, 13, true), (13, 1, false), (14, 1, false), (15, 1, false), (16, 1, false), (17, 1, false), (18, 1, false), (19, 1, false), (20, 1, false), (21, 4, true)], eqs := [] }),
  (96, { agg := false, size := 1, zero := [.map none], kind := .map (some .i64) 25 true, elt := 85, eb := 0, ez := [.string ⟨#[]⟩, .string ⟨#[]⟩, .string ⟨#[]⟩, .int .i64 0, .string ⟨#[]⟩, .slice none 0 0, .slice none 0 0, .string ⟨#[]⟩, .int .i64 0, .int .i64 0, .int .i64 0, .int .i64 0, .int .i64 0, .int .i64 0, .int .i64 0, .int .i64 0, .int .i64 0, .int .i64 0, .int .i64 0, .bool false, .bool false, .int .i64 0, .int .i64 0, .int .i64 0, .int .i64 0], ek := none, eqs := [] }),
  (98, { agg := false, size := 1, zero := [.map none], kind := .map none 2 true, elt := 78, eb := 0, ez := [.string ⟨#[]⟩, .string ⟨#[]⟩], ek := none, eqs := [] }),
  (100, { agg := true, size := 4, zero := [.map none, .map none, .map none, .int .i64 0], kind := .struct [(0, 1, false), (1, 1, false), (2, 1, false), (3, 1, false)], eqs := [] }),
  (101, { agg := false, size := 1, zero := [.slice none 0 0], kind := .slice 1 false, elt := 3, eb := 8, ez := [.int .i64 0], ek := some .i64, eqs := [] })]
theorem tabOK : TabOK Try.prog tab := ⟨⟨by kernel_rfl, fun h => absurd rfl h⟩, ⟨by kernel_rfl, fun h => absurd rfl h⟩, ⟨by kernel_rfl, fun h => absurd rfl h⟩, ⟨by kernel_rfl, fun h => absurd rfl h⟩, ⟨by kernel_rfl, fun h => absurd rfl h⟩, ⟨by kernel_rfl, fun h => absurd rfl h⟩, ⟨by kernel_rfl, fun _ => eqCells_of (by kernel_rfl)⟩, ⟨by kernel_rfl, fun h => absurd rfl h⟩, ⟨by kernel_rfl, fun h => absurd rfl h⟩, ⟨by kernel_rfl, fun h => absurd rfl h⟩, ⟨by kernel_rfl, fun h => absurd rfl h⟩, ⟨by kernel_rfl, fun h => absurd rfl h⟩, ⟨by kernel_rfl, fun _ => eqCells_of (by kernel_rfl)⟩, ⟨by kernel_rfl, fun h => absurd rfl h⟩, ⟨by kernel_rfl, fun h => absurd rfl h⟩, ⟨by kernel_rfl, fun h => absurd rfl h⟩, ⟨by kernel_rfl, fun h => absurd rfl h⟩, ⟨by kernel_rfl, fun h => absurd rfl h⟩, ⟨by kernel_rfl, fun h => absurd rfl h⟩, trivial⟩
theorem hΓ : ΓOK Try.prog (tabΓ tab) := ΓOK.of tabOK
theorem hm : Try.prog.follows .mixedOrders = true := by kernel_rfl
structure S_api_Check where
  f_Test : List UInt8
  f_Every : Int
  f_Start : Int
  f_Retries : Int
structure S_api_Spec where
  f_Name : List UInt8
  f_Project : List UInt8
  f_Service : List UInt8
  f_Number : Int
  f_Hash : List UInt8
  f_Nets : List (List UInt8)
  f_Vols : List (List UInt8)
  f_Health : S_api_Check
  f_Restart : Int
  f_Tries : Int
structure S_api_Call where
  f_Kind : Int
  f_Name : List UInt8
  f_Id : Int
  f_Spec : S_api_Spec
def E_string : List UInt8 → List D := fun x => [.str x]
def E_api_Call : S_api_Call → List D := fun x => [.val (.int .i64 x.f_Kind), .str x.f_Name, .val (.int .i64 x.f_Id), .str x.f_Spec.f_Name, .str x.f_Spec.f_Project, .str x.f_Spec.f_Service, .val (.int .i64 x.f_Spec.f_Number), .str x.f_Spec.f_Hash, .recs (α := List UInt8) [] E_string x.f_Spec.f_Nets, .recs (α := List UInt8) [] E_string x.f_Spec.f_Vols, .str x.f_Spec.f_Health.f_Test, .val (.int .i64 x.f_Spec.f_Health.f_Every), .val (.int .i64 x.f_Spec.f_Health.f_Start), .val (.int .i64 x.f_Spec.f_Health.f_Retries), .val (.int .i64 x.f_Spec.f_Restart), .val (.int .i64 x.f_Spec.f_Tries)]
structure S_probe_State where
  f_Health : Int
  f_Fails : Int
  f_Began : Int
  f_Next : Int
structure S_life_Box where
  f_Spec : S_api_Spec
  f_Id : Int
  f_State : Int
  f_Code : Int
  f_Runs : Int
  f_Done : Int
  f_At : Int
  f_ByHand : Bool
  f_Sick : Bool
  f_Probe : S_probe_State
def E_life_Box : S_life_Box → List D := fun x => [.str x.f_Spec.f_Name, .str x.f_Spec.f_Project, .str x.f_Spec.f_Service, .val (.int .i64 x.f_Spec.f_Number), .str x.f_Spec.f_Hash, .recs (α := List UInt8) [] E_string x.f_Spec.f_Nets, .recs (α := List UInt8) [] E_string x.f_Spec.f_Vols, .str x.f_Spec.f_Health.f_Test, .val (.int .i64 x.f_Spec.f_Health.f_Every), .val (.int .i64 x.f_Spec.f_Health.f_Start), .val (.int .i64 x.f_Spec.f_Health.f_Retries), .val (.int .i64 x.f_Spec.f_Restart), .val (.int .i64 x.f_Spec.f_Tries), .val (.int .i64 x.f_Id), .val (.int .i64 x.f_State), .val (.int .i64 x.f_Code), .val (.int .i64 x.f_Runs), .val (.int .i64 x.f_Done), .val (.int .i64 x.f_At), .val (.bool x.f_ByHand), .val (.bool x.f_Sick), .val (.int .i64 x.f_Probe.f_Health), .val (.int .i64 x.f_Probe.f_Fails), .val (.int .i64 x.f_Probe.f_Began), .val (.int .i64 x.f_Probe.f_Next)]
structure S_api_Container where
  f_Id : Int
  f_Spec : S_api_Spec
  f_State : Int
  f_Code : Int
  f_Health : Int
  f_Runs : Int
abbrev Z_api_Spec : S_api_Spec := (S_api_Spec.mk [] [] [] 0 [] [] [] (S_api_Check.mk [] 0 0 0) 0 0)
abbrev Z_api_Container : S_api_Container := (S_api_Container.mk 0 Z_api_Spec 0 0 0 0)
def E_api_Container : S_api_Container → List D := fun x => [.val (.int .i64 x.f_Id), .str x.f_Spec.f_Name, .str x.f_Spec.f_Project, .str x.f_Spec.f_Service, .val (.int .i64 x.f_Spec.f_Number), .str x.f_Spec.f_Hash, .recs (α := List UInt8) [] E_string x.f_Spec.f_Nets, .recs (α := List UInt8) [] E_string x.f_Spec.f_Vols, .str x.f_Spec.f_Health.f_Test, .val (.int .i64 x.f_Spec.f_Health.f_Every), .val (.int .i64 x.f_Spec.f_Health.f_Start), .val (.int .i64 x.f_Spec.f_Health.f_Retries), .val (.int .i64 x.f_Spec.f_Restart), .val (.int .i64 x.f_Spec.f_Tries), .val (.int .i64 x.f_State), .val (.int .i64 x.f_Code), .val (.int .i64 x.f_Health), .val (.int .i64 x.f_Runs)]
structure S_api_Kept where
  f_Name : List UInt8
  f_Project : List UInt8
def E_api_Kept : S_api_Kept → List D := fun x => [.str x.f_Name, .str x.f_Project]
structure S_store_Store where
  f_boxes : List (MK × S_life_Box)
  f_nets : List (MK × S_api_Kept)
  f_vols : List (MK × S_api_Kept)
  f_last : Int
abbrev Z_life_Box : S_life_Box := (S_life_Box.mk Z_api_Spec 0 0 0 0 0 0 false false (S_probe_State.mk 0 0 0 0))
def store_New_o : S_store_Store :=
  (S_store_Store.mk ([] : List (MK × S_life_Box)) ([] : List (MK × S_api_Kept)) ([] : List (MK × S_api_Kept)) 0)
theorem ok_store_New_o (r : S_store_Store) (h : store_New_o = r) : CallsB Try.prog 30 [] [] (.own 1 0) [(1, 100, [.mp 2, .mp 3, .mp 4, .val (.int .i64 r.f_last)]), (2, 96, [.mapc (some .i64) true (α := S_life_Box) Z_life_Box E_life_Box r.f_boxes]), (3, 98, [.mapc none true (α := S_api_Kept) (S_api_Kept.mk [] []) E_api_Kept r.f_nets]), (4, 98, [.mapc none true (α := S_api_Kept) (S_api_Kept.mk [] []) E_api_Kept r.f_vols])] := by
  unfold store_New_o at h
  refine callsB_of (fn := Try.f30) (by kernel_rfl) rfl (by kernel_rfl) (Nat.le_of_ble_eq_true (by kernel_rfl)) fun F0 w0 => ?_
  refine Wp.keep (kk := []) (kl := []) (K' := []) (L' := []) (by kernel_rfl) (by kernel_rfl) ?_
  refine Wp.seq ?_
  refine Wp.region hΓ [] [] [] [] [] (K' := []) (L' := []) (ob := []) (by kernel_rfl) AllP.nil ?_
  refine To.thenN ?_
  refine Wp.seq ?_
  refine Wp.region hΓ [] [(0, .mapc (some .i64) true (α := S_life_Box) Z_life_Box E_life_Box []), (1, .mapc none true (α := S_api_Kept) (S_api_Kept.mk [] []) E_api_Kept []), (2, .mapc none true (α := S_api_Kept) (S_api_Kept.mk [] []) E_api_Kept [])] [] [0] [1, 2, 3, 5] (K' := [(0, .own 5 0)]) (L' := [(1, 96, [.mapc (some .i64) true (α := S_life_Box) Z_life_Box E_life_Box []]), (2, 98, [.mapc none true (α := S_api_Kept) (S_api_Kept.mk [] []) E_api_Kept []]), (3, 98, [.mapc none true (α := S_api_Kept) (S_api_Kept.mk [] []) E_api_Kept []]), (5, 100, [.mp 1, .mp 2, .mp 3, .val (.int .i64 0)])]) (ob := [(GoodM true E_life_Box), (GoodM true E_api_Kept), (GoodM true E_api_Kept)]) (by kernel_rfl) (AllP.cons (⟨fun _ => rfl, fun h => by cases h⟩) (AllP.cons (⟨fun _ => rfl, fun h => by cases h⟩) (AllP.cons (⟨fun _ => rfl, fun h => by cases h⟩) AllP.nil))) ?_
  refine To.thenN ?_
  refine Wp.ret ?_
  refine To.keep (kk := [0]) (kl := [1, 2, 3, 5]) (K' := [(0, .own 5 0)]) (L' := [(1, 96, [.mapc (some .i64) true (α := S_life_Box) Z_life_Box E_life_Box []]), (2, 98, [.mapc none true (α := S_api_Kept) (S_api_Kept.mk [] []) E_api_Kept []]), (3, 98, [.mapc none true (α := S_api_Kept) (S_api_Kept.mk [] []) E_api_Kept []]), (5, 100, [.mp 1, .mp 2, .mp 3, .val (.int .i64 0)])]) (by kernel_rfl) (by kernel_rfl) ?_
  refine To.pre (St.rename 1 3000 (by decide) (K' := [(0, .own 5 0)]) (L' := [(3000, 96, [.mapc (some .i64) true (α := S_life_Box) Z_life_Box E_life_Box []]), (2, 98, [.mapc none true (α := S_api_Kept) (S_api_Kept.mk [] []) E_api_Kept []]), (3, 98, [.mapc none true (α := S_api_Kept) (S_api_Kept.mk [] []) E_api_Kept []]), (5, 100, [.mp 3000, .mp 2, .mp 3, .val (.int .i64 0)])]) (by kernel_rfl) (by kernel_rfl) (by kernel_rfl)) ?_
  refine To.keep (kk := [0]) (kl := [2, 3, 5, 3000]) (K' := [(0, .own 5 0)]) (L' := [(2, 98, [.mapc none true (α := S_api_Kept) (S_api_Kept.mk [] []) E_api_Kept []]), (3, 98, [.mapc none true (α := S_api_Kept) (S_api_Kept.mk [] []) E_api_Kept []]), (5, 100, [.mp 3000, .mp 2, .mp 3, .val (.int .i64 0)]), (3000, 96, [.mapc (some .i64) true (α := S_life_Box) Z_life_Box E_life_Box []])]) (by kernel_rfl) (by kernel_rfl) ?_
  refine To.pre (St.rename 5 1 (by decide) (K' := [(0, .own 1 0)]) (L' := [(2, 98, [.mapc none true (α := S_api_Kept) (S_api_Kept.mk [] []) E_api_Kept []]), (3, 98, [.mapc none true (α := S_api_Kept) (S_api_Kept.mk [] []) E_api_Kept []]), (1, 100, [.mp 3000, .mp 2, .mp 3, .val (.int .i64 0)]), (3000, 96, [.mapc (some .i64) true (α := S_life_Box) Z_life_Box E_life_Box []])]) (by kernel_rfl) (by kernel_rfl) (by kernel_rfl)) ?_
  refine To.keep (kk := [0]) (kl := [1, 2, 3, 3000]) (K' := [(0, .own 1 0)]) (L' := [(1, 100, [.mp 3000, .mp 2, .mp 3, .val (.int .i64 0)]), (2, 98, [.mapc none true (α := S_api_Kept) (S_api_Kept.mk [] []) E_api_Kept []]), (3, 98, [.mapc none true (α := S_api_Kept) (S_api_Kept.mk [] []) E_api_Kept []]), (3000, 96, [.mapc (some .i64) true (α := S_life_Box) Z_life_Box E_life_Box []])]) (by kernel_rfl) (by kernel_rfl) ?_
  refine To.pre (St.rename 2 3001 (by decide) (K' := [(0, .own 1 0)]) (L' := [(1, 100, [.mp 3000, .mp 3001, .mp 3, .val (.int .i64 0)]), (3001, 98, [.mapc none true (α := S_api_Kept) (S_api_Kept.mk [] []) E_api_Kept []]), (3, 98, [.mapc none true (α := S_api_Kept) (S_api_Kept.mk [] []) E_api_Kept []]), (3000, 96, [.mapc (some .i64) true (α := S_life_Box) Z_life_Box E_life_Box []])]) (by kernel_rfl) (by kernel_rfl) (by kernel_rfl)) ?_
  refine To.keep (kk := [0]) (kl := [1, 3, 3000, 3001]) (K' := [(0, .own 1 0)]) (L' := [(1, 100, [.mp 3000, .mp 3001, .mp 3, .val (.int .i64 0)]), (3, 98, [.mapc none true (α := S_api_Kept) (S_api_Kept.mk [] []) E_api_Kept []]), (3000, 96, [.mapc (some .i64) true (α := S_life_Box) Z_life_Box E_life_Box []]), (3001, 98, [.mapc none true (α := S_api_Kept) (S_api_Kept.mk [] []) E_api_Kept []])]) (by kernel_rfl) (by kernel_rfl) ?_
  refine To.pre (St.rename 3000 2 (by decide) (K' := [(0, .own 1 0)]) (L' := [(1, 100, [.mp 2, .mp 3001, .mp 3, .val (.int .i64 0)]), (3, 98, [.mapc none true (α := S_api_Kept) (S_api_Kept.mk [] []) E_api_Kept []]), (2, 96, [.mapc (some .i64) true (α := S_life_Box) Z_life_Box E_life_Box []]), (3001, 98, [.mapc none true (α := S_api_Kept) (S_api_Kept.mk [] []) E_api_Kept []])]) (by kernel_rfl) (by kernel_rfl) (by kernel_rfl)) ?_
  refine To.keep (kk := [0]) (kl := [1, 2, 3, 3001]) (K' := [(0, .own 1 0)]) (L' := [(1, 100, [.mp 2, .mp 3001, .mp 3, .val (.int .i64 0)]), (2, 96, [.mapc (some .i64) true (α := S_life_Box) Z_life_Box E_life_Box []]), (3, 98, [.mapc none true (α := S_api_Kept) (S_api_Kept.mk [] []) E_api_Kept []]), (3001, 98, [.mapc none true (α := S_api_Kept) (S_api_Kept.mk [] []) E_api_Kept []])]) (by kernel_rfl) (by kernel_rfl) ?_
  refine To.pre (St.rename 3 3000 (by decide) (K' := [(0, .own 1 0)]) (L' := [(1, 100, [.mp 2, .mp 3001, .mp 3000, .val (.int .i64 0)]), (2, 96, [.mapc (some .i64) true (α := S_life_Box) Z_life_Box E_life_Box []]), (3000, 98, [.mapc none true (α := S_api_Kept) (S_api_Kept.mk [] []) E_api_Kept []]), (3001, 98, [.mapc none true (α := S_api_Kept) (S_api_Kept.mk [] []) E_api_Kept []])]) (by kernel_rfl) (by kernel_rfl) (by kernel_rfl)) ?_
  refine To.keep (kk := [0]) (kl := [1, 2, 3000, 3001]) (K' := [(0, .own 1 0)]) (L' := [(1, 100, [.mp 2, .mp 3001, .mp 3000, .val (.int .i64 0)]), (2, 96, [.mapc (some .i64) true (α := S_life_Box) Z_life_Box E_life_Box []]), (3000, 98, [.mapc none true (α := S_api_Kept) (S_api_Kept.mk [] []) E_api_Kept []]), (3001, 98, [.mapc none true (α := S_api_Kept) (S_api_Kept.mk [] []) E_api_Kept []])]) (by kernel_rfl) (by kernel_rfl) ?_
  refine To.pre (St.rename 3001 3 (by decide) (K' := [(0, .own 1 0)]) (L' := [(1, 100, [.mp 2, .mp 3, .mp 3000, .val (.int .i64 0)]), (2, 96, [.mapc (some .i64) true (α := S_life_Box) Z_life_Box E_life_Box []]), (3000, 98, [.mapc none true (α := S_api_Kept) (S_api_Kept.mk [] []) E_api_Kept []]), (3, 98, [.mapc none true (α := S_api_Kept) (S_api_Kept.mk [] []) E_api_Kept []])]) (by kernel_rfl) (by kernel_rfl) (by kernel_rfl)) ?_
  refine To.keep (kk := [0]) (kl := [1, 2, 3, 3000]) (K' := [(0, .own 1 0)]) (L' := [(1, 100, [.mp 2, .mp 3, .mp 3000, .val (.int .i64 0)]), (2, 96, [.mapc (some .i64) true (α := S_life_Box) Z_life_Box E_life_Box []]), (3, 98, [.mapc none true (α := S_api_Kept) (S_api_Kept.mk [] []) E_api_Kept []]), (3000, 98, [.mapc none true (α := S_api_Kept) (S_api_Kept.mk [] []) E_api_Kept []])]) (by kernel_rfl) (by kernel_rfl) ?_
  refine To.pre (St.rename 3000 4 (by decide) (K' := [(0, .own 1 0)]) (L' := [(1, 100, [.mp 2, .mp 3, .mp 4, .val (.int .i64 0)]), (2, 96, [.mapc (some .i64) true (α := S_life_Box) Z_life_Box E_life_Box []]), (3, 98, [.mapc none true (α := S_api_Kept) (S_api_Kept.mk [] []) E_api_Kept []]), (4, 98, [.mapc none true (α := S_api_Kept) (S_api_Kept.mk [] []) E_api_Kept []])]) (by kernel_rfl) (by kernel_rfl) (by kernel_rfl)) ?_
  refine To.keep (kk := [0]) (kl := [1, 2, 3, 4]) (K' := [(0, .own 1 0)]) (L' := [(1, 100, [.mp 2, .mp 3, .mp 4, .val (.int .i64 0)]), (2, 96, [.mapc (some .i64) true (α := S_life_Box) Z_life_Box E_life_Box []]), (3, 98, [.mapc none true (α := S_api_Kept) (S_api_Kept.mk [] []) E_api_Kept []]), (4, 98, [.mapc none true (α := S_api_Kept) (S_api_Kept.mk [] []) E_api_Kept []])]) (by kernel_rfl) (by kernel_rfl) ?_
  cases h
  exact To.doneB hΓ [1, 2, 3, 4] (by kernel_rfl) (by kernel_rfl)
def store_put__m0 (a1 : S_api_Call) (h0 : List (MK × S_api_Kept)) : Int × (List (MK × S_api_Kept)) :=
  if (bif (a1.f_Name == []) then true else (decide ((List.length a1.f_Name : Int) > 64))) = true then ((2, h0))
  else (if (mlook h0 (.inl a1.f_Name)).isSome = true then ((11, h0))
  else (if (decide ((List.length h0 : Int) ≥ 32)) = true then ((14, h0))
  else ((0, (mput h0 (.inl a1.f_Name) (S_api_Kept.mk a1.f_Name a1.f_Spec.f_Project))))))
theorem ok_store_put__m0 (a1 : S_api_Call) (h0 : List (MK × S_api_Kept)) (r : Int × (List (MK × S_api_Kept))) (h : store_put__m0 a1 h0 = r) : CallsB Try.prog 59 [.mp 1000000, .agg [.val (.int .i64 a1.f_Kind), .str a1.f_Name, .val (.int .i64 a1.f_Id), .str a1.f_Spec.f_Name, .str a1.f_Spec.f_Project, .str a1.f_Spec.f_Service, .val (.int .i64 a1.f_Spec.f_Number), .str a1.f_Spec.f_Hash, .recs (α := List UInt8) [] E_string a1.f_Spec.f_Nets, .recs (α := List UInt8) [] E_string a1.f_Spec.f_Vols, .str a1.f_Spec.f_Health.f_Test, .val (.int .i64 a1.f_Spec.f_Health.f_Every), .val (.int .i64 a1.f_Spec.f_Health.f_Start), .val (.int .i64 a1.f_Spec.f_Health.f_Retries), .val (.int .i64 a1.f_Spec.f_Restart), .val (.int .i64 a1.f_Spec.f_Tries)]] [(1000000, 98, [.mapc none true (α := S_api_Kept) (S_api_Kept.mk [] []) E_api_Kept h0])] (.val (.int .i64 r.1)) [(1000000, 98, [.mapc none true (α := S_api_Kept) (S_api_Kept.mk [] []) E_api_Kept r.2])] := by
  unfold store_put__m0 at h
  refine callsB_of (fn := Try.f59) (by kernel_rfl) rfl (by kernel_rfl) (Nat.le_of_ble_eq_true (by kernel_rfl)) fun F0 w0 => ?_
  refine Wp.keep (kk := [0, 1]) (kl := [1000000]) (K' := [(0, .mp 1000000), (1, .agg (E_api_Call a1))]) (L' := [(1000000, 98, [.mapc none true (α := S_api_Kept) (S_api_Kept.mk [] []) E_api_Kept h0])]) (by kernel_rfl) (by kernel_rfl) ?_
  refine Wp.seq ?_
  refine Wp.region hΓ [] [] [] [0, 3] [3, 1000000] (K' := [(0, .mp 1000000), (3, .own 3 0)]) (L' := [(3, 75, (E_api_Call a1)), (1000000, 98, [.mapc none true (α := S_api_Kept) (S_api_Kept.mk [] []) E_api_Kept h0])]) (ob := []) (by kernel_rfl) AllP.nil ?_
  refine To.thenN ?_
  refine Wp.seq ?_
  refine Wp.region hΓ [] [(3, .tup [.agg [.str (((mlook h0 (.inl a1.f_Name)).getD (S_api_Kept.mk [] [])).f_Name), .str (((mlook h0 (.inl a1.f_Name)).getD (S_api_Kept.mk [] [])).f_Project)], .val (.bool ((mlook h0 (.inl a1.f_Name)).isSome))])] [] [0, 3, 6] [3, 1000000] (K' := [(0, .mp 1000000), (3, .own 3 0), (6, .val (.bool ((mlook h0 (.inl a1.f_Name)).isSome)))]) (L' := [(3, 75, (E_api_Call a1)), (1000000, 98, [.mapc none true (α := S_api_Kept) (S_api_Kept.mk [] []) E_api_Kept h0])]) (ob := [(true = true → LookOkOb true E_api_Kept h0 (.inl a1.f_Name) [.str [], .str []] (.tup [.agg [.str (((mlook h0 (.inl a1.f_Name)).getD (S_api_Kept.mk [] [])).f_Name), .str (((mlook h0 (.inl a1.f_Name)).getD (S_api_Kept.mk [] [])).f_Project)], .val (.bool ((mlook h0 (.inl a1.f_Name)).isSome))]))]) (by kernel_rfl) (AllP.cons (fun _ => ⟨(S_api_Kept.mk [] []), .agg [.str (((mlook h0 (.inl a1.f_Name)).getD (S_api_Kept.mk [] [])).f_Name), .str (((mlook h0 (.inl a1.f_Name)).getD (S_api_Kept.mk [] [])).f_Project)], Weaks.of_eq (by kernel_rfl), by kernel_rfl, by kernel_rfl⟩) AllP.nil) ?_
  refine To.thenN ?_
  refine Wp.seq ?_
  refine Wp.block ?_
  refine Wp.seq ?_
  refine Wp.region hΓ [] [] [] [0, 3, 6, 14] [3, 1000000] (K' := [(0, .mp 1000000), (3, .own 3 0), (6, .val (.bool ((mlook h0 (.inl a1.f_Name)).isSome))), (14, .val (.bool (bif (a1.f_Name == []) then true else (decide ((List.length a1.f_Name : Int) > 64)))))]) (L' := [(3, 75, (E_api_Call a1)), (1000000, 98, [.mapc none true (α := S_api_Kept) (S_api_Kept.mk [] []) E_api_Kept h0])]) (ob := []) (by kernel_rfl) AllP.nil ?_
  refine To.thenN ?_
  refine Wp.cond (b := (bif (a1.f_Name == []) then true else (decide ((List.length a1.f_Name : Int) > 64)))) (by kernel_rfl) (fun hb => ?_) (fun hb => ?_)
  · replace h := if_t hb h
    refine Wp.seq ?_
    refine Wp.region hΓ [] [] [] [4] [1000000] (K' := [(4, .val (.int .i64 2))]) (L' := [(1000000, 98, [.mapc none true (α := S_api_Kept) (S_api_Kept.mk [] []) E_api_Kept h0])]) (ob := []) (by kernel_rfl) AllP.nil ?_
    refine To.thenN ?_
    refine Wp.ret ?_
    refine To.blockR ?_
    refine To.thenR ?_
    refine To.keep (kk := [4]) (kl := [1000000]) (K' := [(4, .val (.int .i64 2))]) (L' := [(1000000, 98, [.mapc none true (α := S_api_Kept) (S_api_Kept.mk [] []) E_api_Kept h0])]) (by kernel_rfl) (by kernel_rfl) ?_
    cases h
    exact To.doneB hΓ [1000000] (by kernel_rfl) (by kernel_rfl)
  · replace h := if_f hb h
    refine Wp.seq ?_
    refine Wp.region hΓ [] [] [] [0, 3, 24] [3, 1000000] (K' := [(0, .mp 1000000), (3, .own 3 0), (24, .val (.bool ((mlook h0 (.inl a1.f_Name)).isSome)))]) (L' := [(3, 75, (E_api_Call a1)), (1000000, 98, [.mapc none true (α := S_api_Kept) (S_api_Kept.mk [] []) E_api_Kept h0])]) (ob := []) (by kernel_rfl) AllP.nil ?_
    refine To.thenN ?_
    refine Wp.cond (b := (mlook h0 (.inl a1.f_Name)).isSome) (by kernel_rfl) (fun hb => ?_) (fun hb => ?_)
    · replace h := if_t hb h
      refine Wp.seq ?_
      refine Wp.region hΓ [] [] [] [4] [1000000] (K' := [(4, .val (.int .i64 11))]) (L' := [(1000000, 98, [.mapc none true (α := S_api_Kept) (S_api_Kept.mk [] []) E_api_Kept h0])]) (ob := []) (by kernel_rfl) AllP.nil ?_
      refine To.thenN ?_
      refine Wp.ret ?_
      refine To.blockR ?_
      refine To.thenR ?_
      refine To.keep (kk := [4]) (kl := [1000000]) (K' := [(4, .val (.int .i64 11))]) (L' := [(1000000, 98, [.mapc none true (α := S_api_Kept) (S_api_Kept.mk [] []) E_api_Kept h0])]) (by kernel_rfl) (by kernel_rfl) ?_
      cases h
      exact To.doneB hΓ [1000000] (by kernel_rfl) (by kernel_rfl)
    · replace h := if_f hb h
      refine Wp.seq ?_
      refine Wp.region hΓ [] [] [] [0, 3, 26] [3, 1000000] (K' := [(0, .mp 1000000), (3, .own 3 0), (26, .val (.bool (decide ((List.length h0 : Int) ≥ 32))))]) (L' := [(3, 75, (E_api_Call a1)), (1000000, 98, [.mapc none true (α := S_api_Kept) (S_api_Kept.mk [] []) E_api_Kept h0])]) (ob := []) (by kernel_rfl) AllP.nil ?_
      refine To.thenN ?_
      refine Wp.cond (b := (decide ((List.length h0 : Int) ≥ 32))) (by kernel_rfl) (fun hb => ?_) (fun hb => ?_)
      · replace h := if_t hb h
        refine Wp.seq ?_
        refine Wp.region hΓ [] [] [] [4] [1000000] (K' := [(4, .val (.int .i64 14))]) (L' := [(1000000, 98, [.mapc none true (α := S_api_Kept) (S_api_Kept.mk [] []) E_api_Kept h0])]) (ob := []) (by kernel_rfl) AllP.nil ?_
        refine To.thenN ?_
        refine Wp.ret ?_
        refine To.blockR ?_
        refine To.thenR ?_
        refine To.keep (kk := [4]) (kl := [1000000]) (K' := [(4, .val (.int .i64 14))]) (L' := [(1000000, 98, [.mapc none true (α := S_api_Kept) (S_api_Kept.mk [] []) E_api_Kept h0])]) (by kernel_rfl) (by kernel_rfl) ?_
        cases h
        exact To.doneB hΓ [1000000] (by kernel_rfl) (by kernel_rfl)
      · replace h := if_f hb h
        refine Wp.skip ?_
        refine To.blockN ?_
        refine To.thenN ?_
        refine Wp.seq ?_
        refine Wp.region hΓ [] [(9, .mapc none true (α := S_api_Kept) (S_api_Kept.mk [] []) E_api_Kept (mput h0 (.inl a1.f_Name) (S_api_Kept.mk a1.f_Name a1.f_Spec.f_Project)))] [] [] [1000000] (K' := []) (L' := [(1000000, 98, [.mapc none true (α := S_api_Kept) (S_api_Kept.mk [] []) E_api_Kept (mput h0 (.inl a1.f_Name) (S_api_Kept.mk a1.f_Name a1.f_Spec.f_Project))])]) (ob := [(∃ l' : List (MK × S_api_Kept), (.mapc none true (α := S_api_Kept) (S_api_Kept.mk [] []) E_api_Kept (mput h0 (.inl a1.f_Name) (S_api_Kept.mk a1.f_Name a1.f_Spec.f_Project)) : D) = .mapc none true (α := S_api_Kept) (S_api_Kept.mk [] []) E_api_Kept l' ∧ MsetOb E_api_Kept h0 (.inl a1.f_Name) [.str a1.f_Name, .str a1.f_Spec.f_Project] l')]) (by kernel_rfl) (AllP.cons (⟨_, rfl, (S_api_Kept.mk a1.f_Name a1.f_Spec.f_Project), Weaks.of_eq (by kernel_rfl), rfl⟩) AllP.nil) ?_
        refine To.thenN ?_
        refine Wp.seq ?_
        refine Wp.region hΓ [] [] [] [4] [1000000] (K' := [(4, .val (.int .i64 0))]) (L' := [(1000000, 98, [.mapc none true (α := S_api_Kept) (S_api_Kept.mk [] []) E_api_Kept (mput h0 (.inl a1.f_Name) (S_api_Kept.mk a1.f_Name a1.f_Spec.f_Project))])]) (ob := []) (by kernel_rfl) AllP.nil ?_
        refine To.thenN ?_
        refine Wp.ret ?_
        refine To.keep (kk := [4]) (kl := [1000000]) (K' := [(4, .val (.int .i64 0))]) (L' := [(1000000, 98, [.mapc none true (α := S_api_Kept) (S_api_Kept.mk [] []) E_api_Kept (mput h0 (.inl a1.f_Name) (S_api_Kept.mk a1.f_Name a1.f_Spec.f_Project))])]) (by kernel_rfl) (by kernel_rfl) ?_
        cases h
        exact To.doneB hΓ [1000000] (by kernel_rfl) (by kernel_rfl)
def E_api_Spec : S_api_Spec → List D := fun x => [.str x.f_Name, .str x.f_Project, .str x.f_Service, .val (.int .i64 x.f_Number), .str x.f_Hash, .recs (α := List UInt8) [] E_string x.f_Nets, .recs (α := List UInt8) [] E_string x.f_Vols, .str x.f_Health.f_Test, .val (.int .i64 x.f_Health.f_Every), .val (.int .i64 x.f_Health.f_Start), .val (.int .i64 x.f_Health.f_Retries), .val (.int .i64 x.f_Restart), .val (.int .i64 x.f_Tries)]
def store_Store_Do_1 (a0 : S_api_Spec) : (List (List UInt8)) :=
  a0.f_Nets
theorem ok_store_Store_Do_1 (a0 : S_api_Spec) (r : (List (List UInt8))) (h : store_Store_Do_1 a0 = r) : CallsX Try.prog 61 [.agg [.str a0.f_Name, .str a0.f_Project, .str a0.f_Service, .val (.int .i64 a0.f_Number), .str a0.f_Hash, .recs (α := List UInt8) [] E_string a0.f_Nets, .recs (α := List UInt8) [] E_string a0.f_Vols, .str a0.f_Health.f_Test, .val (.int .i64 a0.f_Health.f_Every), .val (.int .i64 a0.f_Health.f_Start), .val (.int .i64 a0.f_Health.f_Retries), .val (.int .i64 a0.f_Restart), .val (.int .i64 a0.f_Tries)]] (.recs (α := List UInt8) [] E_string r) := by
  unfold store_Store_Do_1 at h
  refine callsX_of (fn := Try.f61) (by kernel_rfl) rfl (by kernel_rfl) (Nat.le_of_ble_eq_true (by kernel_rfl)) fun F0 w0 _ => ?_
  refine Wp.keep (kk := [0]) (kl := []) (K' := [(0, .agg (E_api_Spec a0))]) (L' := []) (by kernel_rfl) (by kernel_rfl) ?_
  refine Wp.seq ?_
  refine Wp.region hΓ [] [] [] [1] [1] (K' := [(1, .own 1 0)]) (L' := [(1, 47, (E_api_Spec a0))]) (ob := []) (by kernel_rfl) AllP.nil ?_
  refine To.thenN ?_
  refine Wp.seq ?_
  refine Wp.region hΓ [] [] [] [2] [] (K' := [(2, .recs (α := List UInt8) [] E_string a0.f_Nets)]) (L' := []) (ob := []) (by kernel_rfl) AllP.nil ?_
  refine To.thenN ?_
  refine Wp.ret ?_
  refine To.keep (kk := [2]) (kl := []) (K' := [(2, .recs (α := List UInt8) [] E_string a0.f_Nets)]) (L' := []) (by kernel_rfl) (by kernel_rfl) ?_
  cases h
  exact To.done hΓ (by kernel_rfl)
def slices_Index_string_string_l1 (n : Nat) (v0 : List (List UInt8)) (v1 : List UInt8) (v7 : Int) : Nat → Int → Option (Sum (Unit) (Int))
  | 0, _ => none
  | k + 1, v8 => if (decide (v8 < v7)) = true then (if (decide (0 ≤ v8 ∧ v8 < (List.length v0 : Int))) = true then (if (v1 == ((v0)[Int.toNat v8]?.getD [])) = true then (some (.inr v8))
  else (slices_Index_string_string_l1 n v0 v1 v7 k (IntKind.wrap .i64 (v8 + 1)))) else none)
  else (some (.inl ()))
theorem ok_slices_Index_string_string_l1 (n : Nat) (v0 : List (List UInt8)) (v1 : List UInt8) (v7 : Int) {F0 : Fz} {w0 : Pt Try.prog} {Q : Exit → Act → World → Prop} (k : Nat) : ∀ (v8 : Int) (o : Sum (Unit) (Int)), slices_Index_string_string_l1 n v0 v1 v7 k v8 = some o → (Sum.elim (fun s => To 19 F0 w0 [] [] (.exit 0) Q) (fun s => To 19 F0 w0 [(4, .val (.int .i64 s))] [] .ret Q)) o → WL Try.prog 19 F0 w0 [(0, .recs (α := List UInt8) [] E_string v0), (1, .str v1), (7, .val (.int .i64 v7)), (8, .val (.int .i64 v8))] [] (cI (cI (cB (cA (cB (cF Try.f91)))))) Q := by
  induction k with
  | zero => intro v8 o h; cases h
  | succ k ih =>
    intro v8 o h hQ
    rw [slices_Index_string_string_l1] at h
    refine WL.round ?_
    refine Wp.seq ?_
    refine Wp.region hΓ [] [] [] [0, 1, 7, 8, 9] [] (K' := [(0, .recs (α := List UInt8) [] E_string v0), (1, .str v1), (7, .val (.int .i64 v7)), (8, .val (.int .i64 v8)), (9, .val (.bool (decide (v8 < v7))))]) (L' := []) (ob := []) (by kernel_rfl) AllP.nil ?_
    refine To.thenN ?_
    refine Wp.seq ?_
    refine Wp.cond (b := (decide (v8 < v7))) (by kernel_rfl) (fun hb => ?_) (fun hb => ?_)
    · replace h := if_t hb h
      refine Wp.skip ?_
      refine To.thenN ?_
      refine Wp.seq ?_
      refine Wp.block ?_
      refine Wp.seq ?_
      refine Wp.region hΓ [] [] [] [0, 1, 5, 7, 8] [] (K' := [(0, .recs (α := List UInt8) [] E_string v0), (1, .str v1), (5, .val (.int .i64 v8)), (7, .val (.int .i64 v7)), (8, .val (.int .i64 v8))]) (L' := []) (ob := []) (by kernel_rfl) AllP.nil ?_
      refine To.thenN ?_
      refine Wp.seq ?_
      obtain ⟨hc1, h⟩ := chk_of h
      refine Wp.region hΓ [] [] [] [0, 1, 5, 7, 8, 16] [] (K' := [(0, .recs (α := List UInt8) [] E_string v0), (1, .str v1), (5, .val (.int .i64 v8)), (7, .val (.int .i64 v7)), (8, .val (.int .i64 v8)), (16, .val (.bool (v1 == ((v0)[Int.toNat v8]?.getD []))))]) (L' := []) (ob := [(decide (0 ≤ v8 ∧ v8 < (List.length v0 : Int))) = true]) (by kernel_rfl) (AllP.cons hc1 AllP.nil) ?_
      refine To.thenN ?_
      refine Wp.cond (b := (v1 == ((v0)[Int.toNat v8]?.getD []))) (by kernel_rfl) (fun hb => ?_) (fun hb => ?_)
      · replace h := if_t hb h
        refine Wp.seq ?_
        refine Wp.region hΓ [] [] [] [4] [] (K' := [(4, .val (.int .i64 v8))]) (L' := []) (ob := []) (by kernel_rfl) AllP.nil ?_
        refine To.thenN ?_
        refine Wp.ret ?_
        refine To.blockR ?_
        refine To.thenR ?_
        refine To.thenR ?_
        refine To.keep (kk := [4]) (kl := []) (K' := [(4, .val (.int .i64 v8))]) (L' := []) (by kernel_rfl) (by kernel_rfl) ?_
        cases h
        exact hQ
      · replace h := if_f hb h
        refine Wp.skip ?_
        refine To.blockN ?_
        refine To.thenN ?_
        refine Wp.region hΓ [] [] [] [0, 1, 7, 8] [] (K' := [(0, .recs (α := List UInt8) [] E_string v0), (1, .str v1), (7, .val (.int .i64 v7)), (8, .val (.int .i64 (IntKind.wrap .i64 (v8 + 1))))]) (L' := []) (ob := []) (by kernel_rfl) AllP.nil ?_
        refine To.keep (kk := [0, 1, 7, 8]) (kl := []) (K' := [(0, .recs (α := List UInt8) [] E_string v0), (1, .str v1), (7, .val (.int .i64 v7)), (8, .val (.int .i64 (IntKind.wrap .i64 (v8 + 1))))]) (L' := []) (by kernel_rfl) (by kernel_rfl) ?_
        refine To.again ?_
        exact ih (IntKind.wrap .i64 (v8 + 1)) _ h hQ
    · replace h := if_f hb h
      refine Wp.exit ?_
      refine To.thenX ?_
      refine To.thenX ?_
      refine To.keep (kk := []) (kl := []) (K' := []) (L' := []) (by kernel_rfl) (by kernel_rfl) ?_
      cases h
      exact hQ
def slices_Index_string_string (n : Nat) (a0 : List (List UInt8)) (a1 : List UInt8) : Option (Int) :=
  (slices_Index_string_string_l1 n a0 a1 (List.length a0 : Int) n 0).bind fun o1 =>
  (Sum.elim (fun o1 => some (-1)) (fun o1 => some o1)) o1
theorem ok_slices_Index_string_string (n : Nat) (a0 : List (List UInt8)) (a1 : List UInt8) (r : Int) (h : slices_Index_string_string n a0 a1 = some r) : CallsX Try.prog 91 [.recs (α := List UInt8) [] E_string a0, .str a1] (.val (.int .i64 r)) := by
  unfold slices_Index_string_string at h
  refine callsX_of (fn := Try.f91) (by kernel_rfl) rfl (by kernel_rfl) (Nat.le_of_ble_eq_true (by kernel_rfl)) fun F0 w0 _ => ?_
  refine Wp.keep (kk := [0, 1]) (kl := []) (K' := [(0, .recs (α := List UInt8) [] E_string a0), (1, .str a1)]) (L' := []) (by kernel_rfl) (by kernel_rfl) ?_
  refine Wp.seq ?_
  refine Wp.region hΓ [] [] [] [0, 1] [] (K' := [(0, .recs (α := List UInt8) [] E_string a0), (1, .str a1)]) (L' := []) (ob := []) (by kernel_rfl) AllP.nil ?_
  refine To.thenN ?_
  refine Wp.seq ?_
  refine Wp.seq ?_
  refine Wp.region hΓ [] [] [] [0, 1, 7, 8] [] (K' := [(0, .recs (α := List UInt8) [] E_string a0), (1, .str a1), (7, .val (.int .i64 (List.length a0 : Int))), (8, .val (.int .i64 0))]) (L' := []) (ob := []) (by kernel_rfl) AllP.nil ?_
  refine To.thenN ?_
  refine Wp.block ?_
  obtain ⟨o1, ho1, h⟩ := bind_of h
  refine Wp.keep (kk := [0, 1, 7, 8]) (kl := []) (K' := [(0, .recs (α := List UInt8) [] E_string a0), (1, .str a1), (7, .val (.int .i64 (List.length a0 : Int))), (8, .val (.int .i64 0))]) (L' := []) (by kernel_rfl) (by kernel_rfl) ?_
  refine Wp.loopL ?_
  refine ok_slices_Index_string_string_l1 n a0 a1 (List.length a0 : Int) n 0 o1 ho1 ?_
  rcases o1 with o1 | o1
  · replace h := sum_l h
    refine To.blockX ?_
    refine To.thenN ?_
    refine Wp.seq ?_
    refine Wp.region hΓ [] [] [] [4] [] (K' := [(4, .val (.int .i64 (-1)))]) (L' := []) (ob := []) (by kernel_rfl) AllP.nil ?_
    refine To.thenN ?_
    refine Wp.ret ?_
    refine To.keep (kk := [4]) (kl := []) (K' := [(4, .val (.int .i64 (-1)))]) (L' := []) (by kernel_rfl) (by kernel_rfl) ?_
    cases h
    exact To.done hΓ (by kernel_rfl)
  · replace h := sum_r h
    refine To.blockR ?_
    refine To.thenR ?_
    refine To.keep (kk := [4]) (kl := []) (K' := [(4, .val (.int .i64 o1))]) (L' := []) (by kernel_rfl) (by kernel_rfl) ?_
    cases h
    exact To.done hΓ (by kernel_rfl)
def slices_Contains_string_string (n : Nat) (a0 : List (List UInt8)) (a1 : List UInt8) : Option (Bool) :=
  (slices_Index_string_string n a0 a1).bind fun r1 =>
  some (decide (r1 ≥ 0))
theorem ok_slices_Contains_string_string (n : Nat) (a0 : List (List UInt8)) (a1 : List UInt8) (r : Bool) (h : slices_Contains_string_string n a0 a1 = some r) : CallsX Try.prog 77 [.recs (α := List UInt8) [] E_string a0, .str a1] (.val (.bool r)) := by
  unfold slices_Contains_string_string at h
  refine callsX_of (fn := Try.f77) (by kernel_rfl) rfl (by kernel_rfl) (Nat.le_of_ble_eq_true (by kernel_rfl)) fun F0 w0 _ => ?_
  refine Wp.keep (kk := [0, 1]) (kl := []) (K' := [(0, .recs (α := List UInt8) [] E_string a0), (1, .str a1)]) (L' := []) (by kernel_rfl) (by kernel_rfl) ?_
  refine Wp.seq ?_
  refine Wp.region hΓ [] [] [] [0, 1] [] (K' := [(0, .recs (α := List UInt8) [] E_string a0), (1, .str a1)]) (L' := []) (ob := []) (by kernel_rfl) AllP.nil ?_
  refine To.thenN ?_
  refine Wp.seq ?_
  obtain ⟨r1, hr1, h⟩ := bind_of h
  refine Wp.region hΓ [] [(2, .val (.int .i64 r1))] [] [4] [] (K' := [(4, .val (.bool (decide (r1 ≥ 0))))]) (L' := []) (ob := [(true = true → CX Try.prog 91 [.recs (α := List UInt8) [] E_string a0, .str a1] (.val (.int .i64 r1)))]) (by kernel_rfl) (AllP.cons (fun _ => cx (ok_slices_Index_string_string n a0 a1 _ hr1)) AllP.nil) ?_
  refine To.thenN ?_
  refine Wp.ret ?_
  refine To.keep (kk := [4]) (kl := []) (K' := [(4, .val (.bool (decide (r1 ≥ 0))))]) (L' := []) (by kernel_rfl) (by kernel_rfl) ?_
  cases h
  exact To.done hΓ (by kernel_rfl)
def name_In (n : Nat) (a0 : List (List UInt8)) (a1 : List UInt8) : Option (Bool) :=
  (slices_Contains_string_string n a0 a1).bind fun r1 =>
  some r1
theorem ok_name_In (n : Nat) (a0 : List (List UInt8)) (a1 : List UInt8) (r : Bool) (h : name_In n a0 a1 = some r) : CallsX Try.prog 52 [.recs (α := List UInt8) [] E_string a0, .str a1] (.val (.bool r)) := by
  unfold name_In at h
  refine callsX_of (fn := Try.f52) (by kernel_rfl) rfl (by kernel_rfl) (Nat.le_of_ble_eq_true (by kernel_rfl)) fun F0 w0 _ => ?_
  refine Wp.keep (kk := [0, 1]) (kl := []) (K' := [(0, .recs (α := List UInt8) [] E_string a0), (1, .str a1)]) (L' := []) (by kernel_rfl) (by kernel_rfl) ?_
  refine Wp.seq ?_
  refine Wp.region hΓ [] [] [] [0, 1] [] (K' := [(0, .recs (α := List UInt8) [] E_string a0), (1, .str a1)]) (L' := []) (ob := []) (by kernel_rfl) AllP.nil ?_
  refine To.thenN ?_
  refine Wp.seq ?_
  obtain ⟨r1, hr1, h⟩ := bind_of h
  refine Wp.region hΓ [] [(2, .val (.bool r1))] [] [4] [] (K' := [(4, .val (.bool r1))]) (L' := []) (ob := [(true = true → CX Try.prog 77 [.recs (α := List UInt8) [] E_string a0, .str a1] (.val (.bool r1)))]) (by kernel_rfl) (AllP.cons (fun _ => cx (ok_slices_Contains_string_string n a0 a1 _ hr1)) AllP.nil) ?_
  refine To.thenN ?_
  refine Wp.ret ?_
  refine To.keep (kk := [4]) (kl := []) (K' := [(4, .val (.bool r1))]) (L' := []) (by kernel_rfl) (by kernel_rfl) ?_
  cases h
  exact To.done hΓ (by kernel_rfl)
def store_Store_drop__o0__m0n61__store_Store_Do_1_m1 (n : Nat) (v2 : List UInt8) (b1000000 : S_store_Store) (x : MK × S_life_Box) : Option (Sum (Unit) (Int)) :=
  (name_In n (store_Store_Do_1 x.2.f_Spec) v2).bind fun r2 =>
  if r2 = true then (some (.inr 17))
  else (some (.inl ()))
theorem ok_store_Store_drop__o0__m0n61__store_Store_Do_1_m1 (n : Nat) (v2 : List UInt8) (b1000000 : S_store_Store) (x : MK × S_life_Box) (o : Sum (Unit) (Int)) (h : store_Store_drop__o0__m0n61__store_Store_Do_1_m1 n v2 b1000000 x = some o) {F0 : Fz} {w0 : Pt Try.prog} {Q : Exit → Act → World → Prop} {b0 clock0 r0 j : Nat} {seen : Array Nat} {es0 : Array MapEntry} {em : MapEntry} (hj : es0[j]? = some em) (hx : (b1000000.f_boxes)[j]? = some x) (hQ : (Sum.elim (fun s => To 38 F0 w0 [(1, .mp 1010061), (2, .str v2), (3, .fn 61 []), (25, .val (.pointer (some ⟨r0, 0, none⟩)))] [(25, 0, [iterD r0 b0 clock0 (seen.push em.born)]), (1000000, 100, [.mp 1010060, .mp 1010061, .mp 1010062, .val (.int .i64 b1000000.f_last)]), (1010060, 96, [lockD b0 es0 clock0 (some .i64) true (α := S_life_Box) E_life_Box b1000000.f_boxes]), (1010061, 98, [.mapc none true (α := S_api_Kept) (S_api_Kept.mk [] []) E_api_Kept b1000000.f_nets]), (1010062, 98, [.mapc none true (α := S_api_Kept) (S_api_Kept.mk [] []) E_api_Kept b1000000.f_vols])] .normal Q) (fun s => To 38 F0 w0 [(8, .val (.int .i64 s))] [(25, 0, [iterD r0 b0 clock0 (seen.push em.born)]), (1000000, 100, [.mp 1010060, .mp 1010061, .mp 1010062, .val (.int .i64 b1000000.f_last)]), (1010060, 96, [lockD b0 es0 clock0 (some .i64) true (α := S_life_Box) E_life_Box b1000000.f_boxes]), (1010061, 98, [.mapc none true (α := S_api_Kept) (S_api_Kept.mk [] []) E_api_Kept b1000000.f_nets]), (1010062, 98, [.mapc none true (α := S_api_Kept) (S_api_Kept.mk [] []) E_api_Kept b1000000.f_vols])] .ret Q)) o) : Wp Try.prog 38 F0 w0 [(1, .mp 1010061), (2, .str v2), (3, .fn 61 []), (25, .val (.pointer (some ⟨r0, 0, none⟩)))] [(25, 0, [iterD r0 b0 clock0 (seen.push em.born)]), (1000000, 100, [.mp 1010060, .mp 1010061, .mp 1010062, .val (.int .i64 b1000000.f_last)]), (1010060, 96, [lockD b0 es0 clock0 (some .i64) true (α := S_life_Box) E_life_Box b1000000.f_boxes]), (1010061, 98, [.mapc none true (α := S_api_Kept) (S_api_Kept.mk [] []) E_api_Kept b1000000.f_nets]), (1010062, 98, [.mapc none true (α := S_api_Kept) (S_api_Kept.mk [] []) E_api_Kept b1000000.f_vols])] (cB (cB (cI (cI (cB (cA (cB (cB (cF Try.f60))))))))) Q := by
  unfold store_Store_drop__o0__m0n61__store_Store_Do_1_m1 at h
  refine Wp.block ?_
  refine Wp.seq ?_
  refine Wp.rangeEntry hΓ (u := 25) (te := 28) (k := 1010060) (ki := 25) (tt := 96) (t2 := 0) (r := r0) (b := b0) (clock := clock0) (seen := seen) (es := es0) (em := em) (kd := (some .i64)) (ag := true) (enc := E_life_Box) (m := b1000000.f_boxes) (x := x) (dv := .agg [.str x.2.f_Spec.f_Name, .str x.2.f_Spec.f_Project, .str x.2.f_Spec.f_Service, .val (.int .i64 x.2.f_Spec.f_Number), .str x.2.f_Spec.f_Hash, .recs (α := List UInt8) [] E_string x.2.f_Spec.f_Nets, .recs (α := List UInt8) [] E_string x.2.f_Spec.f_Vols, .str x.2.f_Spec.f_Health.f_Test, .val (.int .i64 x.2.f_Spec.f_Health.f_Every), .val (.int .i64 x.2.f_Spec.f_Health.f_Start), .val (.int .i64 x.2.f_Spec.f_Health.f_Retries), .val (.int .i64 x.2.f_Spec.f_Restart), .val (.int .i64 x.2.f_Spec.f_Tries), .val (.int .i64 x.2.f_Id), .val (.int .i64 x.2.f_State), .val (.int .i64 x.2.f_Code), .val (.int .i64 x.2.f_Runs), .val (.int .i64 x.2.f_Done), .val (.int .i64 x.2.f_At), .val (.bool x.2.f_ByHand), .val (.bool x.2.f_Sick), .val (.int .i64 x.2.f_Probe.f_Health), .val (.int .i64 x.2.f_Probe.f_Fails), .val (.int .i64 x.2.f_Probe.f_Began), .val (.int .i64 x.2.f_Probe.f_Next)]) [] [] [] [1, 2, 3, 12, 25] [12, 25, 1000000, 1010060, 1010061, 1010062] hj hx rfl rfl rfl (Nat.le_of_ble_eq_true (by kernel_rfl)) (by kernel_rfl) (by kernel_rfl) (by kernel_rfl) (by kernel_rfl) (by kernel_rfl) (K' := [(1, .mp 1010061), (2, .str v2), (3, .fn 61 []), (12, .own 12 0), (25, .val (.pointer (some ⟨r0, 0, none⟩)))]) (L' := [(12, 85, (E_life_Box x.2)), (25, 0, [iterD r0 b0 clock0 (seen.push em.born)]), (1000000, 100, [.mp 1010060, .mp 1010061, .mp 1010062, .val (.int .i64 b1000000.f_last)]), (1010060, 96, [lockD b0 es0 clock0 (some .i64) true (α := S_life_Box) E_life_Box b1000000.f_boxes]), (1010061, 98, [.mapc none true (α := S_api_Kept) (S_api_Kept.mk [] []) E_api_Kept b1000000.f_nets]), (1010062, 98, [.mapc none true (α := S_api_Kept) (S_api_Kept.mk [] []) E_api_Kept b1000000.f_vols])]) (ob := []) (by kernel_rfl) AllP.nil ?_
  refine To.thenN ?_
  refine Wp.seq ?_
  obtain ⟨r2, hr2, h⟩ := bind_of h
  refine Wp.region hΓ [] [(3, .recs (α := List UInt8) [] E_string (store_Store_Do_1 x.2.f_Spec)), (5, .val (.bool r2))] [] [1, 2, 3, 25, 35] [25, 1000000, 1010060, 1010061, 1010062] (K' := [(1, .mp 1010061), (2, .str v2), (3, .fn 61 []), (25, .val (.pointer (some ⟨r0, 0, none⟩))), (35, .val (.bool r2))]) (L' := [(25, 0, [iterD r0 b0 clock0 (seen.push em.born)]), (1000000, 100, [.mp 1010060, .mp 1010061, .mp 1010062, .val (.int .i64 b1000000.f_last)]), (1010060, 96, [lockD b0 es0 clock0 (some .i64) true (α := S_life_Box) E_life_Box b1000000.f_boxes]), (1010061, 98, [.mapc none true (α := S_api_Kept) (S_api_Kept.mk [] []) E_api_Kept b1000000.f_nets]), (1010062, 98, [.mapc none true (α := S_api_Kept) (S_api_Kept.mk [] []) E_api_Kept b1000000.f_vols])]) (ob := [(true = true → CX Try.prog 61 [.agg [.str x.2.f_Spec.f_Name, .str x.2.f_Spec.f_Project, .str x.2.f_Spec.f_Service, .val (.int .i64 x.2.f_Spec.f_Number), .str x.2.f_Spec.f_Hash, .recs (α := List UInt8) [] E_string x.2.f_Spec.f_Nets, .recs (α := List UInt8) [] E_string x.2.f_Spec.f_Vols, .str x.2.f_Spec.f_Health.f_Test, .val (.int .i64 x.2.f_Spec.f_Health.f_Every), .val (.int .i64 x.2.f_Spec.f_Health.f_Start), .val (.int .i64 x.2.f_Spec.f_Health.f_Retries), .val (.int .i64 x.2.f_Spec.f_Restart), .val (.int .i64 x.2.f_Spec.f_Tries)]] (.recs (α := List UInt8) [] E_string (store_Store_Do_1 x.2.f_Spec))), (true = true → CX Try.prog 52 [.recs (α := List UInt8) [] E_string (store_Store_Do_1 x.2.f_Spec), .str v2] (.val (.bool r2)))]) (by kernel_rfl) (AllP.cons (fun _ => cx (ok_store_Store_Do_1 x.2.f_Spec _ rfl)) (AllP.cons (fun _ => cx (ok_name_In n (store_Store_Do_1 x.2.f_Spec) v2 _ hr2)) AllP.nil)) ?_
  refine To.thenN ?_
  refine Wp.cond (b := r2) (by kernel_rfl) (fun hb => ?_) (fun hb => ?_)
  · replace h := if_t hb h
    refine Wp.seq ?_
    refine Wp.region hΓ [] [] [] [8] [25, 1000000, 1010060, 1010061, 1010062] (K' := [(8, .val (.int .i64 17))]) (L' := [(25, 0, [iterD r0 b0 clock0 (seen.push em.born)]), (1000000, 100, [.mp 1010060, .mp 1010061, .mp 1010062, .val (.int .i64 b1000000.f_last)]), (1010060, 96, [lockD b0 es0 clock0 (some .i64) true (α := S_life_Box) E_life_Box b1000000.f_boxes]), (1010061, 98, [.mapc none true (α := S_api_Kept) (S_api_Kept.mk [] []) E_api_Kept b1000000.f_nets]), (1010062, 98, [.mapc none true (α := S_api_Kept) (S_api_Kept.mk [] []) E_api_Kept b1000000.f_vols])]) (ob := []) (by kernel_rfl) AllP.nil ?_
    refine To.thenN ?_
    refine Wp.ret ?_
    refine To.blockR ?_
    refine To.keep (kk := [8]) (kl := [25, 1000000, 1010060, 1010061, 1010062]) (K' := [(8, .val (.int .i64 17))]) (L' := [(25, 0, [iterD r0 b0 clock0 (seen.push em.born)]), (1000000, 100, [.mp 1010060, .mp 1010061, .mp 1010062, .val (.int .i64 b1000000.f_last)]), (1010060, 96, [lockD b0 es0 clock0 (some .i64) true (α := S_life_Box) E_life_Box b1000000.f_boxes]), (1010061, 98, [.mapc none true (α := S_api_Kept) (S_api_Kept.mk [] []) E_api_Kept b1000000.f_nets]), (1010062, 98, [.mapc none true (α := S_api_Kept) (S_api_Kept.mk [] []) E_api_Kept b1000000.f_vols])]) (by kernel_rfl) (by kernel_rfl) ?_
    cases h
    exact hQ
  · replace h := if_f hb h
    refine Wp.skip ?_
    refine To.blockN ?_
    refine To.keep (kk := [1, 2, 3, 25]) (kl := [25, 1000000, 1010060, 1010061, 1010062]) (K' := [(1, .mp 1010061), (2, .str v2), (3, .fn 61 []), (25, .val (.pointer (some ⟨r0, 0, none⟩)))]) (L' := [(25, 0, [iterD r0 b0 clock0 (seen.push em.born)]), (1000000, 100, [.mp 1010060, .mp 1010061, .mp 1010062, .val (.int .i64 b1000000.f_last)]), (1010060, 96, [lockD b0 es0 clock0 (some .i64) true (α := S_life_Box) E_life_Box b1000000.f_boxes]), (1010061, 98, [.mapc none true (α := S_api_Kept) (S_api_Kept.mk [] []) E_api_Kept b1000000.f_nets]), (1010062, 98, [.mapc none true (α := S_api_Kept) (S_api_Kept.mk [] []) E_api_Kept b1000000.f_vols])]) (by kernel_rfl) (by kernel_rfl) ?_
    cases h
    exact hQ
def store_Store_drop__o0__m0n61__store_Store_Do_1 (n : Nat) (a2 : List UInt8) (h0 : S_store_Store) : Option (Int × S_store_Store) :=
  if (!((mlook h0.f_nets (.inl a2)).isSome)) = true then (some (12, h0))
  else ((roundAll (store_Store_drop__o0__m0n61__store_Store_Do_1_m1 n a2 h0) h0.f_boxes).bind fun o2 =>
  Sum.elim (fun _ => some (0, (S_store_Store.mk h0.f_boxes (mdel h0.f_nets (.inl a2)) h0.f_vols h0.f_last))) (fun y => some (y, h0)) o2)
theorem ok_store_Store_drop__o0__m0n61__store_Store_Do_1 (n : Nat) (a2 : List UInt8) (h0 : S_store_Store) (r : Int × S_store_Store) (h : store_Store_drop__o0__m0n61__store_Store_Do_1 n a2 h0 = some r) : CallsB Try.prog 60 [.own 1000000 0, .mp 1010061, .str a2, .fn 61 []] [(1000000, 100, [.mp 1010060, .mp 1010061, .mp 1010062, .val (.int .i64 h0.f_last)]), (1010060, 96, [.mapc (some .i64) true (α := S_life_Box) Z_life_Box E_life_Box h0.f_boxes]), (1010061, 98, [.mapc none true (α := S_api_Kept) (S_api_Kept.mk [] []) E_api_Kept h0.f_nets]), (1010062, 98, [.mapc none true (α := S_api_Kept) (S_api_Kept.mk [] []) E_api_Kept h0.f_vols])] (.val (.int .i64 r.1)) [(1000000, 100, [.mp 1010060, .mp 1010061, .mp 1010062, .val (.int .i64 r.2.f_last)]), (1010060, 96, [.mapc (some .i64) true (α := S_life_Box) Z_life_Box E_life_Box r.2.f_boxes]), (1010061, 98, [.mapc none true (α := S_api_Kept) (S_api_Kept.mk [] []) E_api_Kept r.2.f_nets]), (1010062, 98, [.mapc none true (α := S_api_Kept) (S_api_Kept.mk [] []) E_api_Kept r.2.f_vols])] := by
  unfold store_Store_drop__o0__m0n61__store_Store_Do_1 at h
  refine callsB_of (fn := Try.f60) (by kernel_rfl) rfl (by kernel_rfl) (Nat.le_of_ble_eq_true (by kernel_rfl)) fun F0 w0 => ?_
  refine Wp.keep (kk := [0, 1, 2, 3]) (kl := [1000000, 1010060, 1010061, 1010062]) (K' := [(0, .own 1000000 0), (1, .mp 1010061), (2, .str a2), (3, .fn 61 [])]) (L' := [(1000000, 100, [.mp 1010060, .mp 1010061, .mp 1010062, .val (.int .i64 h0.f_last)]), (1010060, 96, [.mapc (some .i64) true (α := S_life_Box) Z_life_Box E_life_Box h0.f_boxes]), (1010061, 98, [.mapc none true (α := S_api_Kept) (S_api_Kept.mk [] []) E_api_Kept h0.f_nets]), (1010062, 98, [.mapc none true (α := S_api_Kept) (S_api_Kept.mk [] []) E_api_Kept h0.f_vols])]) (by kernel_rfl) (by kernel_rfl) ?_
  refine Wp.seq ?_
  refine Wp.region hΓ [] [] [] [0, 1, 2, 3] [1000000, 1010060, 1010061, 1010062] (K' := [(0, .own 1000000 0), (1, .mp 1010061), (2, .str a2), (3, .fn 61 [])]) (L' := [(1000000, 100, [.mp 1010060, .mp 1010061, .mp 1010062, .val (.int .i64 h0.f_last)]), (1010060, 96, [.mapc (some .i64) true (α := S_life_Box) Z_life_Box E_life_Box h0.f_boxes]), (1010061, 98, [.mapc none true (α := S_api_Kept) (S_api_Kept.mk [] []) E_api_Kept h0.f_nets]), (1010062, 98, [.mapc none true (α := S_api_Kept) (S_api_Kept.mk [] []) E_api_Kept h0.f_vols])]) (ob := []) (by kernel_rfl) AllP.nil ?_
  refine To.thenN ?_
  refine Wp.seq ?_
  refine Wp.seq ?_
  refine Wp.region hΓ [] [(2, .tup [.agg [.str (((mlook h0.f_nets (.inl a2)).getD (S_api_Kept.mk [] [])).f_Name), .str (((mlook h0.f_nets (.inl a2)).getD (S_api_Kept.mk [] [])).f_Project)], .val (.bool ((mlook h0.f_nets (.inl a2)).isSome))])] [] [0, 1, 2, 3, 10] [1000000, 1010060, 1010061, 1010062] (K' := [(0, .own 1000000 0), (1, .mp 1010061), (2, .str a2), (3, .fn 61 []), (10, .val (.bool ((mlook h0.f_nets (.inl a2)).isSome)))]) (L' := [(1000000, 100, [.mp 1010060, .mp 1010061, .mp 1010062, .val (.int .i64 h0.f_last)]), (1010060, 96, [.mapc (some .i64) true (α := S_life_Box) Z_life_Box E_life_Box h0.f_boxes]), (1010061, 98, [.mapc none true (α := S_api_Kept) (S_api_Kept.mk [] []) E_api_Kept h0.f_nets]), (1010062, 98, [.mapc none true (α := S_api_Kept) (S_api_Kept.mk [] []) E_api_Kept h0.f_vols])]) (ob := [(true = true → LookOkOb true E_api_Kept h0.f_nets (.inl a2) [.str [], .str []] (.tup [.agg [.str (((mlook h0.f_nets (.inl a2)).getD (S_api_Kept.mk [] [])).f_Name), .str (((mlook h0.f_nets (.inl a2)).getD (S_api_Kept.mk [] [])).f_Project)], .val (.bool ((mlook h0.f_nets (.inl a2)).isSome))]))]) (by kernel_rfl) (AllP.cons (fun _ => ⟨(S_api_Kept.mk [] []), .agg [.str (((mlook h0.f_nets (.inl a2)).getD (S_api_Kept.mk [] [])).f_Name), .str (((mlook h0.f_nets (.inl a2)).getD (S_api_Kept.mk [] [])).f_Project)], Weaks.of_eq (by kernel_rfl), by kernel_rfl, by kernel_rfl⟩) AllP.nil) ?_
  refine To.thenN ?_
  refine Wp.seq ?_
  refine Wp.region hΓ [] [] [] [0, 1, 2, 3, 20] [1000000, 1010060, 1010061, 1010062] (K' := [(0, .own 1000000 0), (1, .mp 1010061), (2, .str a2), (3, .fn 61 []), (20, .val (.bool (!((mlook h0.f_nets (.inl a2)).isSome))))]) (L' := [(1000000, 100, [.mp 1010060, .mp 1010061, .mp 1010062, .val (.int .i64 h0.f_last)]), (1010060, 96, [.mapc (some .i64) true (α := S_life_Box) Z_life_Box E_life_Box h0.f_boxes]), (1010061, 98, [.mapc none true (α := S_api_Kept) (S_api_Kept.mk [] []) E_api_Kept h0.f_nets]), (1010062, 98, [.mapc none true (α := S_api_Kept) (S_api_Kept.mk [] []) E_api_Kept h0.f_vols])]) (ob := []) (by kernel_rfl) AllP.nil ?_
  refine To.thenN ?_
  refine Wp.cond (b := (!((mlook h0.f_nets (.inl a2)).isSome))) (by kernel_rfl) (fun hb => ?_) (fun hb => ?_)
  · replace h := if_t hb h
    refine Wp.seq ?_
    refine Wp.region hΓ [] [] [] [8] [1000000, 1010060, 1010061, 1010062] (K' := [(8, .val (.int .i64 12))]) (L' := [(1000000, 100, [.mp 1010060, .mp 1010061, .mp 1010062, .val (.int .i64 h0.f_last)]), (1010060, 96, [.mapc (some .i64) true (α := S_life_Box) Z_life_Box E_life_Box h0.f_boxes]), (1010061, 98, [.mapc none true (α := S_api_Kept) (S_api_Kept.mk [] []) E_api_Kept h0.f_nets]), (1010062, 98, [.mapc none true (α := S_api_Kept) (S_api_Kept.mk [] []) E_api_Kept h0.f_vols])]) (ob := []) (by kernel_rfl) AllP.nil ?_
    refine To.thenN ?_
    refine Wp.ret ?_
    refine To.thenR ?_
    refine To.keep (kk := [8]) (kl := [1000000, 1010060, 1010061, 1010062]) (K' := [(8, .val (.int .i64 12))]) (L' := [(1000000, 100, [.mp 1010060, .mp 1010061, .mp 1010062, .val (.int .i64 h0.f_last)]), (1010060, 96, [.mapc (some .i64) true (α := S_life_Box) Z_life_Box E_life_Box h0.f_boxes]), (1010061, 98, [.mapc none true (α := S_api_Kept) (S_api_Kept.mk [] []) E_api_Kept h0.f_nets]), (1010062, 98, [.mapc none true (α := S_api_Kept) (S_api_Kept.mk [] []) E_api_Kept h0.f_vols])]) (by kernel_rfl) (by kernel_rfl) ?_
    cases h
    exact To.doneB hΓ [1000000, 1010060, 1010061, 1010062] (by kernel_rfl) (by kernel_rfl)
  · replace h := if_f hb h
    refine Wp.skip ?_
    refine To.thenN ?_
    refine Wp.seq ?_
    refine Wp.seq ?_
    refine Wp.rangeStart hΓ (t := 96) (s := 24) (u := 25) (k := 1010060) (ki := 25) (tt := 96) [] [] [] [1, 2, 3, 24] [1000000, 1010060, 1010061, 1010062] (K' := [(1, .mp 1010061), (2, .str a2), (3, .fn 61 []), (24, .mp 1010060)]) (L' := [(1000000, 100, [.mp 1010060, .mp 1010061, .mp 1010062, .val (.int .i64 h0.f_last)]), (1010060, 96, [.mapc (some .i64) true (α := S_life_Box) Z_life_Box E_life_Box h0.f_boxes]), (1010061, 98, [.mapc none true (α := S_api_Kept) (S_api_Kept.mk [] []) E_api_Kept h0.f_nets]), (1010062, 98, [.mapc none true (α := S_api_Kept) (S_api_Kept.mk [] []) E_api_Kept h0.f_vols])]) (ob := []) (by kernel_rfl) (Nat.le_of_ble_eq_true (by kernel_rfl)) (by kernel_rfl) AllP.nil (kd := (some .i64)) (sz := 25) (ag := true) (by kernel_rfl) (α := S_life_Box) (d := Z_life_Box) (enc := E_life_Box) (m := h0.f_boxes) (by kernel_rfl) (by kernel_rfl) (Nat.le_of_ble_eq_true (by kernel_rfl)) (by kernel_rfl) (by kernel_rfl) ?_
    intro b1 es1 clock1 r01
    refine To.keep (kk := [1, 2, 3, 25]) (kl := [25, 1000000, 1010060, 1010061, 1010062]) (K' := [(1, .mp 1010061), (2, .str a2), (3, .fn 61 []), (25, .val (.pointer (some ⟨r01, 0, none⟩)))]) (L' := [(25, 0, [iterD r01 b1 clock1 #[]]), (1000000, 100, [.mp 1010060, .mp 1010061, .mp 1010062, .val (.int .i64 h0.f_last)]), (1010060, 96, [lockD b1 es1 clock1 (some .i64) true (α := S_life_Box) E_life_Box h0.f_boxes]), (1010061, 98, [.mapc none true (α := S_api_Kept) (S_api_Kept.mk [] []) E_api_Kept h0.f_nets]), (1010062, 98, [.mapc none true (α := S_api_Kept) (S_api_Kept.mk [] []) E_api_Kept h0.f_vols])]) (by kernel_rfl) (by kernel_rfl) ?_
    refine To.thenN ?_
    refine Wp.block ?_
    obtain ⟨o2, ho2, h⟩ := bind_of h
    refine Wp.keep (kk := [1, 2, 3, 25]) (kl := [25, 1000000, 1010060, 1010061, 1010062]) (K' := [(1, .mp 1010061), (2, .str a2), (3, .fn 61 []), (25, .val (.pointer (some ⟨r01, 0, none⟩)))]) (L' := [(25, 0, [iterD r01 b1 clock1 #[]]), (1000000, 100, [.mp 1010060, .mp 1010061, .mp 1010062, .val (.int .i64 h0.f_last)]), (1010060, 96, [lockD b1 es1 clock1 (some .i64) true (α := S_life_Box) E_life_Box h0.f_boxes]), (1010061, 98, [.mapc none true (α := S_api_Kept) (S_api_Kept.mk [] []) E_api_Kept h0.f_nets]), (1010062, 98, [.mapc none true (α := S_api_Kept) (S_api_Kept.mk [] []) E_api_Kept h0.f_vols])]) (by kernel_rfl) (by kernel_rfl) ?_
    refine Wp.loopL ?_
    refine WL.mapRangeL (u := 25) (tn := 26) (tk := 27) (ki := 25) (t2 := 0) (k := 1010060) (tt := 96) (b := b1) (clock := clock1) (r := r01) (es := es1) (kd := (some .i64)) (ag := true) (α := S_life_Box) (enc := E_life_Box) (m := h0.f_boxes) (Lr := [(1000000, 100, [.mp 1010060, .mp 1010061, .mp 1010062, .val (.int .i64 h0.f_last)]), (1010061, 98, [.mapc none true (α := S_api_Kept) (S_api_Kept.mk [] []) E_api_Kept h0.f_nets]), (1010062, 98, [.mapc none true (α := S_api_Kept) (S_api_Kept.mk [] []) E_api_Kept h0.f_vols])]) (fun seen => [(25, 0, [iterD r01 b1 clock1 seen]), (1000000, 100, [.mp 1010060, .mp 1010061, .mp 1010062, .val (.int .i64 h0.f_last)]), (1010060, 96, [lockD b1 es1 clock1 (some .i64) true (α := S_life_Box) E_life_Box h0.f_boxes]), (1010061, 98, [.mapc none true (α := S_api_Kept) (S_api_Kept.mk [] []) E_api_Kept h0.f_nets]), (1010062, 98, [.mapc none true (α := S_api_Kept) (S_api_Kept.mk [] []) E_api_Kept h0.f_vols])]) (store_Store_drop__o0__m0n61__store_Store_Do_1_m1 n a2 h0) o2 (fun seen y Q' => To 38 F0 w0 [(8, .val (.int .i64 y))] [(25, 0, [iterD r01 b1 clock1 seen]), (1000000, 100, [.mp 1010060, .mp 1010061, .mp 1010062, .val (.int .i64 h0.f_last)]), (1010060, 96, [lockD b1 es1 clock1 (some .i64) true (α := S_life_Box) E_life_Box h0.f_boxes]), (1010061, 98, [.mapc none true (α := S_api_Kept) (S_api_Kept.mk [] []) E_api_Kept h0.f_nets]), (1010062, 98, [.mapc none true (α := S_api_Kept) (S_api_Kept.mk [] []) E_api_Kept h0.f_vols])] .ret Q') [25, 1010060, 1000000, 1010061, 1010062] [25, 1000000, 1010060, 1010061, 1010062] (fun seen => by kernel_rfl) (fun seen => by kernel_rfl) ⟨_, rfl, rfl⟩ rfl rfl rfl rfl rfl ⟨Nat.le_of_ble_eq_true (by kernel_rfl), Nat.le_of_ble_eq_true (by kernel_rfl)⟩ (by kernel_rfl) (by kernel_rfl) (by decide) (by kernel_rfl) ho2 (fun seen em j x s hj hx hs Q' hQ => ok_store_Store_drop__o0__m0n61__store_Store_Do_1_m1 n a2 h0 x s hs hj hx hQ) (fun he seen => ?_) (fun seen y he => ?_)
    · cases he
      replace h := sum_l h
      refine To.pre (St.unlock (t := 96) (b := b1) (es := es1) (clock := clock1) (kk := (some .i64)) (ag := true) (α := S_life_Box) (enc := E_life_Box) (l := h0.f_boxes) 1010060 Z_life_Box (by kernel_rfl) (L' := [(1010060, 96, [.mapc (some .i64) true (α := S_life_Box) Z_life_Box E_life_Box h0.f_boxes]), (25, 0, [iterD r01 b1 clock1 seen]), (1000000, 100, [.mp 1010060, .mp 1010061, .mp 1010062, .val (.int .i64 h0.f_last)]), (1010061, 98, [.mapc none true (α := S_api_Kept) (S_api_Kept.mk [] []) E_api_Kept h0.f_nets]), (1010062, 98, [.mapc none true (α := S_api_Kept) (S_api_Kept.mk [] []) E_api_Kept h0.f_vols])]) (by kernel_rfl)) ?_
      refine To.keep (kk := [1, 2, 3]) (kl := [1000000, 1010060, 1010061, 1010062]) (K' := [(1, .mp 1010061), (2, .str a2), (3, .fn 61 [])]) (L' := [(1000000, 100, [.mp 1010060, .mp 1010061, .mp 1010062, .val (.int .i64 h0.f_last)]), (1010060, 96, [.mapc (some .i64) true (α := S_life_Box) Z_life_Box E_life_Box h0.f_boxes]), (1010061, 98, [.mapc none true (α := S_api_Kept) (S_api_Kept.mk [] []) E_api_Kept h0.f_nets]), (1010062, 98, [.mapc none true (α := S_api_Kept) (S_api_Kept.mk [] []) E_api_Kept h0.f_vols])]) (by kernel_rfl) (by kernel_rfl) ?_
      refine To.blockX ?_
      refine To.thenN ?_
      refine Wp.seq ?_
      refine Wp.region hΓ [] [] [] [] [1000000, 1010060, 1010061, 1010062] (K' := []) (L' := [(1000000, 100, [.mp 1010060, .mp 1010061, .mp 1010062, .val (.int .i64 h0.f_last)]), (1010060, 96, [.mapc (some .i64) true (α := S_life_Box) Z_life_Box E_life_Box h0.f_boxes]), (1010061, 98, [.mapc none true (α := S_api_Kept) (S_api_Kept.mk [] []) E_api_Kept (mdel h0.f_nets (.inl a2))]), (1010062, 98, [.mapc none true (α := S_api_Kept) (S_api_Kept.mk [] []) E_api_Kept h0.f_vols])]) (ob := []) (by kernel_rfl) AllP.nil ?_
      refine To.thenN ?_
      refine Wp.seq ?_
      refine Wp.region hΓ [] [] [] [8] [1000000, 1010060, 1010061, 1010062] (K' := [(8, .val (.int .i64 0))]) (L' := [(1000000, 100, [.mp 1010060, .mp 1010061, .mp 1010062, .val (.int .i64 h0.f_last)]), (1010060, 96, [.mapc (some .i64) true (α := S_life_Box) Z_life_Box E_life_Box h0.f_boxes]), (1010061, 98, [.mapc none true (α := S_api_Kept) (S_api_Kept.mk [] []) E_api_Kept (mdel h0.f_nets (.inl a2))]), (1010062, 98, [.mapc none true (α := S_api_Kept) (S_api_Kept.mk [] []) E_api_Kept h0.f_vols])]) (ob := []) (by kernel_rfl) AllP.nil ?_
      refine To.thenN ?_
      refine Wp.ret ?_
      refine To.keep (kk := [8]) (kl := [1000000, 1010060, 1010061, 1010062]) (K' := [(8, .val (.int .i64 0))]) (L' := [(1000000, 100, [.mp 1010060, .mp 1010061, .mp 1010062, .val (.int .i64 h0.f_last)]), (1010060, 96, [.mapc (some .i64) true (α := S_life_Box) Z_life_Box E_life_Box h0.f_boxes]), (1010061, 98, [.mapc none true (α := S_api_Kept) (S_api_Kept.mk [] []) E_api_Kept (mdel h0.f_nets (.inl a2))]), (1010062, 98, [.mapc none true (α := S_api_Kept) (S_api_Kept.mk [] []) E_api_Kept h0.f_vols])]) (by kernel_rfl) (by kernel_rfl) ?_
      cases h
      exact To.doneB hΓ [1000000, 1010060, 1010061, 1010062] (by kernel_rfl) (by kernel_rfl)
    · cases he
      replace h := sum_r h
      refine To.thenR ?_
      refine To.pre (St.unlock (t := 96) (b := b1) (es := es1) (clock := clock1) (kk := (some .i64)) (ag := true) (α := S_life_Box) (enc := E_life_Box) (l := h0.f_boxes) 1010060 Z_life_Box (by kernel_rfl) (L' := [(1010060, 96, [.mapc (some .i64) true (α := S_life_Box) Z_life_Box E_life_Box h0.f_boxes]), (25, 0, [iterD r01 b1 clock1 seen]), (1000000, 100, [.mp 1010060, .mp 1010061, .mp 1010062, .val (.int .i64 h0.f_last)]), (1010061, 98, [.mapc none true (α := S_api_Kept) (S_api_Kept.mk [] []) E_api_Kept h0.f_nets]), (1010062, 98, [.mapc none true (α := S_api_Kept) (S_api_Kept.mk [] []) E_api_Kept h0.f_vols])]) (by kernel_rfl)) ?_
      refine To.keep (kk := [8]) (kl := [1000000, 1010060, 1010061, 1010062]) (K' := [(8, .val (.int .i64 y))]) (L' := [(1000000, 100, [.mp 1010060, .mp 1010061, .mp 1010062, .val (.int .i64 h0.f_last)]), (1010060, 96, [.mapc (some .i64) true (α := S_life_Box) Z_life_Box E_life_Box h0.f_boxes]), (1010061, 98, [.mapc none true (α := S_api_Kept) (S_api_Kept.mk [] []) E_api_Kept h0.f_nets]), (1010062, 98, [.mapc none true (α := S_api_Kept) (S_api_Kept.mk [] []) E_api_Kept h0.f_vols])]) (by kernel_rfl) (by kernel_rfl) ?_
      refine To.blockR ?_
      refine To.thenR ?_
      refine To.keep (kk := [8]) (kl := [1000000, 1010060, 1010061, 1010062]) (K' := [(8, .val (.int .i64 y))]) (L' := [(1000000, 100, [.mp 1010060, .mp 1010061, .mp 1010062, .val (.int .i64 h0.f_last)]), (1010060, 96, [.mapc (some .i64) true (α := S_life_Box) Z_life_Box E_life_Box h0.f_boxes]), (1010061, 98, [.mapc none true (α := S_api_Kept) (S_api_Kept.mk [] []) E_api_Kept h0.f_nets]), (1010062, 98, [.mapc none true (α := S_api_Kept) (S_api_Kept.mk [] []) E_api_Kept h0.f_vols])]) (by kernel_rfl) (by kernel_rfl) ?_
      cases h
      exact To.doneB hΓ [1000000, 1010060, 1010061, 1010062] (by kernel_rfl) (by kernel_rfl)
def store_Store_Do_2 (a0 : S_api_Spec) : (List (List UInt8)) :=
  a0.f_Vols
theorem ok_store_Store_Do_2 (a0 : S_api_Spec) (r : (List (List UInt8))) (h : store_Store_Do_2 a0 = r) : CallsX Try.prog 62 [.agg [.str a0.f_Name, .str a0.f_Project, .str a0.f_Service, .val (.int .i64 a0.f_Number), .str a0.f_Hash, .recs (α := List UInt8) [] E_string a0.f_Nets, .recs (α := List UInt8) [] E_string a0.f_Vols, .str a0.f_Health.f_Test, .val (.int .i64 a0.f_Health.f_Every), .val (.int .i64 a0.f_Health.f_Start), .val (.int .i64 a0.f_Health.f_Retries), .val (.int .i64 a0.f_Restart), .val (.int .i64 a0.f_Tries)]] (.recs (α := List UInt8) [] E_string r) := by
  unfold store_Store_Do_2 at h
  refine callsX_of (fn := Try.f62) (by kernel_rfl) rfl (by kernel_rfl) (Nat.le_of_ble_eq_true (by kernel_rfl)) fun F0 w0 _ => ?_
  refine Wp.keep (kk := [0]) (kl := []) (K' := [(0, .agg (E_api_Spec a0))]) (L' := []) (by kernel_rfl) (by kernel_rfl) ?_
  refine Wp.seq ?_
  refine Wp.region hΓ [] [] [] [1] [1] (K' := [(1, .own 1 0)]) (L' := [(1, 47, (E_api_Spec a0))]) (ob := []) (by kernel_rfl) AllP.nil ?_
  refine To.thenN ?_
  refine Wp.seq ?_
  refine Wp.region hΓ [] [] [] [2] [] (K' := [(2, .recs (α := List UInt8) [] E_string a0.f_Vols)]) (L' := []) (ob := []) (by kernel_rfl) AllP.nil ?_
  refine To.thenN ?_
  refine Wp.ret ?_
  refine To.keep (kk := [2]) (kl := []) (K' := [(2, .recs (α := List UInt8) [] E_string a0.f_Vols)]) (L' := []) (by kernel_rfl) (by kernel_rfl) ?_
  cases h
  exact To.done hΓ (by kernel_rfl)
def store_Store_drop__o0__m0n62__store_Store_Do_2_m1 (n : Nat) (v2 : List UInt8) (b1000000 : S_store_Store) (x : MK × S_life_Box) : Option (Sum (Unit) (Int)) :=
  (name_In n (store_Store_Do_2 x.2.f_Spec) v2).bind fun r2 =>
  if r2 = true then (some (.inr 17))
  else (some (.inl ()))
theorem ok_store_Store_drop__o0__m0n62__store_Store_Do_2_m1 (n : Nat) (v2 : List UInt8) (b1000000 : S_store_Store) (x : MK × S_life_Box) (o : Sum (Unit) (Int)) (h : store_Store_drop__o0__m0n62__store_Store_Do_2_m1 n v2 b1000000 x = some o) {F0 : Fz} {w0 : Pt Try.prog} {Q : Exit → Act → World → Prop} {b0 clock0 r0 j : Nat} {seen : Array Nat} {es0 : Array MapEntry} {em : MapEntry} (hj : es0[j]? = some em) (hx : (b1000000.f_boxes)[j]? = some x) (hQ : (Sum.elim (fun s => To 38 F0 w0 [(1, .mp 1010062), (2, .str v2), (3, .fn 62 []), (25, .val (.pointer (some ⟨r0, 0, none⟩)))] [(25, 0, [iterD r0 b0 clock0 (seen.push em.born)]), (1000000, 100, [.mp 1010060, .mp 1010061, .mp 1010062, .val (.int .i64 b1000000.f_last)]), (1010060, 96, [lockD b0 es0 clock0 (some .i64) true (α := S_life_Box) E_life_Box b1000000.f_boxes]), (1010061, 98, [.mapc none true (α := S_api_Kept) (S_api_Kept.mk [] []) E_api_Kept b1000000.f_nets]), (1010062, 98, [.mapc none true (α := S_api_Kept) (S_api_Kept.mk [] []) E_api_Kept b1000000.f_vols])] .normal Q) (fun s => To 38 F0 w0 [(8, .val (.int .i64 s))] [(25, 0, [iterD r0 b0 clock0 (seen.push em.born)]), (1000000, 100, [.mp 1010060, .mp 1010061, .mp 1010062, .val (.int .i64 b1000000.f_last)]), (1010060, 96, [lockD b0 es0 clock0 (some .i64) true (α := S_life_Box) E_life_Box b1000000.f_boxes]), (1010061, 98, [.mapc none true (α := S_api_Kept) (S_api_Kept.mk [] []) E_api_Kept b1000000.f_nets]), (1010062, 98, [.mapc none true (α := S_api_Kept) (S_api_Kept.mk [] []) E_api_Kept b1000000.f_vols])] .ret Q)) o) : Wp Try.prog 38 F0 w0 [(1, .mp 1010062), (2, .str v2), (3, .fn 62 []), (25, .val (.pointer (some ⟨r0, 0, none⟩)))] [(25, 0, [iterD r0 b0 clock0 (seen.push em.born)]), (1000000, 100, [.mp 1010060, .mp 1010061, .mp 1010062, .val (.int .i64 b1000000.f_last)]), (1010060, 96, [lockD b0 es0 clock0 (some .i64) true (α := S_life_Box) E_life_Box b1000000.f_boxes]), (1010061, 98, [.mapc none true (α := S_api_Kept) (S_api_Kept.mk [] []) E_api_Kept b1000000.f_nets]), (1010062, 98, [.mapc none true (α := S_api_Kept) (S_api_Kept.mk [] []) E_api_Kept b1000000.f_vols])] (cB (cB (cI (cI (cB (cA (cB (cB (cF Try.f60))))))))) Q := by
  unfold store_Store_drop__o0__m0n62__store_Store_Do_2_m1 at h
  refine Wp.block ?_
  refine Wp.seq ?_
  refine Wp.rangeEntry hΓ (u := 25) (te := 28) (k := 1010060) (ki := 25) (tt := 96) (t2 := 0) (r := r0) (b := b0) (clock := clock0) (seen := seen) (es := es0) (em := em) (kd := (some .i64)) (ag := true) (enc := E_life_Box) (m := b1000000.f_boxes) (x := x) (dv := .agg [.str x.2.f_Spec.f_Name, .str x.2.f_Spec.f_Project, .str x.2.f_Spec.f_Service, .val (.int .i64 x.2.f_Spec.f_Number), .str x.2.f_Spec.f_Hash, .recs (α := List UInt8) [] E_string x.2.f_Spec.f_Nets, .recs (α := List UInt8) [] E_string x.2.f_Spec.f_Vols, .str x.2.f_Spec.f_Health.f_Test, .val (.int .i64 x.2.f_Spec.f_Health.f_Every), .val (.int .i64 x.2.f_Spec.f_Health.f_Start), .val (.int .i64 x.2.f_Spec.f_Health.f_Retries), .val (.int .i64 x.2.f_Spec.f_Restart), .val (.int .i64 x.2.f_Spec.f_Tries), .val (.int .i64 x.2.f_Id), .val (.int .i64 x.2.f_State), .val (.int .i64 x.2.f_Code), .val (.int .i64 x.2.f_Runs), .val (.int .i64 x.2.f_Done), .val (.int .i64 x.2.f_At), .val (.bool x.2.f_ByHand), .val (.bool x.2.f_Sick), .val (.int .i64 x.2.f_Probe.f_Health), .val (.int .i64 x.2.f_Probe.f_Fails), .val (.int .i64 x.2.f_Probe.f_Began), .val (.int .i64 x.2.f_Probe.f_Next)]) [] [] [] [1, 2, 3, 12, 25] [12, 25, 1000000, 1010060, 1010061, 1010062] hj hx rfl rfl rfl (Nat.le_of_ble_eq_true (by kernel_rfl)) (by kernel_rfl) (by kernel_rfl) (by kernel_rfl) (by kernel_rfl) (by kernel_rfl) (K' := [(1, .mp 1010062), (2, .str v2), (3, .fn 62 []), (12, .own 12 0), (25, .val (.pointer (some ⟨r0, 0, none⟩)))]) (L' := [(12, 85, (E_life_Box x.2)), (25, 0, [iterD r0 b0 clock0 (seen.push em.born)]), (1000000, 100, [.mp 1010060, .mp 1010061, .mp 1010062, .val (.int .i64 b1000000.f_last)]), (1010060, 96, [lockD b0 es0 clock0 (some .i64) true (α := S_life_Box) E_life_Box b1000000.f_boxes]), (1010061, 98, [.mapc none true (α := S_api_Kept) (S_api_Kept.mk [] []) E_api_Kept b1000000.f_nets]), (1010062, 98, [.mapc none true (α := S_api_Kept) (S_api_Kept.mk [] []) E_api_Kept b1000000.f_vols])]) (ob := []) (by kernel_rfl) AllP.nil ?_
  refine To.thenN ?_
  refine Wp.seq ?_
  obtain ⟨r2, hr2, h⟩ := bind_of h
  refine Wp.region hΓ [] [(3, .recs (α := List UInt8) [] E_string (store_Store_Do_2 x.2.f_Spec)), (5, .val (.bool r2))] [] [1, 2, 3, 25, 35] [25, 1000000, 1010060, 1010061, 1010062] (K' := [(1, .mp 1010062), (2, .str v2), (3, .fn 62 []), (25, .val (.pointer (some ⟨r0, 0, none⟩))), (35, .val (.bool r2))]) (L' := [(25, 0, [iterD r0 b0 clock0 (seen.push em.born)]), (1000000, 100, [.mp 1010060, .mp 1010061, .mp 1010062, .val (.int .i64 b1000000.f_last)]), (1010060, 96, [lockD b0 es0 clock0 (some .i64) true (α := S_life_Box) E_life_Box b1000000.f_boxes]), (1010061, 98, [.mapc none true (α := S_api_Kept) (S_api_Kept.mk [] []) E_api_Kept b1000000.f_nets]), (1010062, 98, [.mapc none true (α := S_api_Kept) (S_api_Kept.mk [] []) E_api_Kept b1000000.f_vols])]) (ob := [(true = true → CX Try.prog 62 [.agg [.str x.2.f_Spec.f_Name, .str x.2.f_Spec.f_Project, .str x.2.f_Spec.f_Service, .val (.int .i64 x.2.f_Spec.f_Number), .str x.2.f_Spec.f_Hash, .recs (α := List UInt8) [] E_string x.2.f_Spec.f_Nets, .recs (α := List UInt8) [] E_string x.2.f_Spec.f_Vols, .str x.2.f_Spec.f_Health.f_Test, .val (.int .i64 x.2.f_Spec.f_Health.f_Every), .val (.int .i64 x.2.f_Spec.f_Health.f_Start), .val (.int .i64 x.2.f_Spec.f_Health.f_Retries), .val (.int .i64 x.2.f_Spec.f_Restart), .val (.int .i64 x.2.f_Spec.f_Tries)]] (.recs (α := List UInt8) [] E_string (store_Store_Do_2 x.2.f_Spec))), (true = true → CX Try.prog 52 [.recs (α := List UInt8) [] E_string (store_Store_Do_2 x.2.f_Spec), .str v2] (.val (.bool r2)))]) (by kernel_rfl) (AllP.cons (fun _ => cx (ok_store_Store_Do_2 x.2.f_Spec _ rfl)) (AllP.cons (fun _ => cx (ok_name_In n (store_Store_Do_2 x.2.f_Spec) v2 _ hr2)) AllP.nil)) ?_
  refine To.thenN ?_
  refine Wp.cond (b := r2) (by kernel_rfl) (fun hb => ?_) (fun hb => ?_)
  · replace h := if_t hb h
    refine Wp.seq ?_
    refine Wp.region hΓ [] [] [] [8] [25, 1000000, 1010060, 1010061, 1010062] (K' := [(8, .val (.int .i64 17))]) (L' := [(25, 0, [iterD r0 b0 clock0 (seen.push em.born)]), (1000000, 100, [.mp 1010060, .mp 1010061, .mp 1010062, .val (.int .i64 b1000000.f_last)]), (1010060, 96, [lockD b0 es0 clock0 (some .i64) true (α := S_life_Box) E_life_Box b1000000.f_boxes]), (1010061, 98, [.mapc none true (α := S_api_Kept) (S_api_Kept.mk [] []) E_api_Kept b1000000.f_nets]), (1010062, 98, [.mapc none true (α := S_api_Kept) (S_api_Kept.mk [] []) E_api_Kept b1000000.f_vols])]) (ob := []) (by kernel_rfl) AllP.nil ?_
    refine To.thenN ?_
    refine Wp.ret ?_
    refine To.blockR ?_
    refine To.keep (kk := [8]) (kl := [25, 1000000, 1010060, 1010061, 1010062]) (K' := [(8, .val (.int .i64 17))]) (L' := [(25, 0, [iterD r0 b0 clock0 (seen.push em.born)]), (1000000, 100, [.mp 1010060, .mp 1010061, .mp 1010062, .val (.int .i64 b1000000.f_last)]), (1010060, 96, [lockD b0 es0 clock0 (some .i64) true (α := S_life_Box) E_life_Box b1000000.f_boxes]), (1010061, 98, [.mapc none true (α := S_api_Kept) (S_api_Kept.mk [] []) E_api_Kept b1000000.f_nets]), (1010062, 98, [.mapc none true (α := S_api_Kept) (S_api_Kept.mk [] []) E_api_Kept b1000000.f_vols])]) (by kernel_rfl) (by kernel_rfl) ?_
    cases h
    exact hQ
  · replace h := if_f hb h
    refine Wp.skip ?_
    refine To.blockN ?_
    refine To.keep (kk := [1, 2, 3, 25]) (kl := [25, 1000000, 1010060, 1010061, 1010062]) (K' := [(1, .mp 1010062), (2, .str v2), (3, .fn 62 []), (25, .val (.pointer (some ⟨r0, 0, none⟩)))]) (L' := [(25, 0, [iterD r0 b0 clock0 (seen.push em.born)]), (1000000, 100, [.mp 1010060, .mp 1010061, .mp 1010062, .val (.int .i64 b1000000.f_last)]), (1010060, 96, [lockD b0 es0 clock0 (some .i64) true (α := S_life_Box) E_life_Box b1000000.f_boxes]), (1010061, 98, [.mapc none true (α := S_api_Kept) (S_api_Kept.mk [] []) E_api_Kept b1000000.f_nets]), (1010062, 98, [.mapc none true (α := S_api_Kept) (S_api_Kept.mk [] []) E_api_Kept b1000000.f_vols])]) (by kernel_rfl) (by kernel_rfl) ?_
    cases h
    exact hQ
def store_Store_drop__o0__m0n62__store_Store_Do_2 (n : Nat) (a2 : List UInt8) (h0 : S_store_Store) : Option (Int × S_store_Store) :=
  if (!((mlook h0.f_vols (.inl a2)).isSome)) = true then (some (12, h0))
  else ((roundAll (store_Store_drop__o0__m0n62__store_Store_Do_2_m1 n a2 h0) h0.f_boxes).bind fun o2 =>
  Sum.elim (fun _ => some (0, (S_store_Store.mk h0.f_boxes h0.f_nets (mdel h0.f_vols (.inl a2)) h0.f_last))) (fun y => some (y, h0)) o2)
theorem ok_store_Store_drop__o0__m0n62__store_Store_Do_2 (n : Nat) (a2 : List UInt8) (h0 : S_store_Store) (r : Int × S_store_Store) (h : store_Store_drop__o0__m0n62__store_Store_Do_2 n a2 h0 = some r) : CallsB Try.prog 60 [.own 1000000 0, .mp 1010062, .str a2, .fn 62 []] [(1000000, 100, [.mp 1010060, .mp 1010061, .mp 1010062, .val (.int .i64 h0.f_last)]), (1010060, 96, [.mapc (some .i64) true (α := S_life_Box) Z_life_Box E_life_Box h0.f_boxes]), (1010061, 98, [.mapc none true (α := S_api_Kept) (S_api_Kept.mk [] []) E_api_Kept h0.f_nets]), (1010062, 98, [.mapc none true (α := S_api_Kept) (S_api_Kept.mk [] []) E_api_Kept h0.f_vols])] (.val (.int .i64 r.1)) [(1000000, 100, [.mp 1010060, .mp 1010061, .mp 1010062, .val (.int .i64 r.2.f_last)]), (1010060, 96, [.mapc (some .i64) true (α := S_life_Box) Z_life_Box E_life_Box r.2.f_boxes]), (1010061, 98, [.mapc none true (α := S_api_Kept) (S_api_Kept.mk [] []) E_api_Kept r.2.f_nets]), (1010062, 98, [.mapc none true (α := S_api_Kept) (S_api_Kept.mk [] []) E_api_Kept r.2.f_vols])] := by
  unfold store_Store_drop__o0__m0n62__store_Store_Do_2 at h
  refine callsB_of (fn := Try.f60) (by kernel_rfl) rfl (by kernel_rfl) (Nat.le_of_ble_eq_true (by kernel_rfl)) fun F0 w0 => ?_
  refine Wp.keep (kk := [0, 1, 2, 3]) (kl := [1000000, 1010060, 1010061, 1010062]) (K' := [(0, .own 1000000 0), (1, .mp 1010062), (2, .str a2), (3, .fn 62 [])]) (L' := [(1000000, 100, [.mp 1010060, .mp 1010061, .mp 1010062, .val (.int .i64 h0.f_last)]), (1010060, 96, [.mapc (some .i64) true (α := S_life_Box) Z_life_Box E_life_Box h0.f_boxes]), (1010061, 98, [.mapc none true (α := S_api_Kept) (S_api_Kept.mk [] []) E_api_Kept h0.f_nets]), (1010062, 98, [.mapc none true (α := S_api_Kept) (S_api_Kept.mk [] []) E_api_Kept h0.f_vols])]) (by kernel_rfl) (by kernel_rfl) ?_
  refine Wp.seq ?_
  refine Wp.region hΓ [] [] [] [0, 1, 2, 3] [1000000, 1010060, 1010061, 1010062] (K' := [(0, .own 1000000 0), (1, .mp 1010062), (2, .str a2), (3, .fn 62 [])]) (L' := [(1000000, 100, [.mp 1010060, .mp 1010061, .mp 1010062, .val (.int .i64 h0.f_last)]), (1010060, 96, [.mapc (some .i64) true (α := S_life_Box) Z_life_Box E_life_Box h0.f_boxes]), (1010061, 98, [.mapc none true (α := S_api_Kept) (S_api_Kept.mk [] []) E_api_Kept h0.f_nets]), (1010062, 98, [.mapc none true (α := S_api_Kept) (S_api_Kept.mk [] []) E_api_Kept h0.f_vols])]) (ob := []) (by kernel_rfl) AllP.nil ?_
  refine To.thenN ?_
  refine Wp.seq ?_
  refine Wp.seq ?_
  refine Wp.region hΓ [] [(2, .tup [.agg [.str (((mlook h0.f_vols (.inl a2)).getD (S_api_Kept.mk [] [])).f_Name), .str (((mlook h0.f_vols (.inl a2)).getD (S_api_Kept.mk [] [])).f_Project)], .val (.bool ((mlook h0.f_vols (.inl a2)).isSome))])] [] [0, 1, 2, 3, 10] [1000000, 1010060, 1010061, 1010062] (K' := [(0, .own 1000000 0), (1, .mp 1010062), (2, .str a2), (3, .fn 62 []), (10, .val (.bool ((mlook h0.f_vols (.inl a2)).isSome)))]) (L' := [(1000000, 100, [.mp 1010060, .mp 1010061, .mp 1010062, .val (.int .i64 h0.f_last)]), (1010060, 96, [.mapc (some .i64) true (α := S_life_Box) Z_life_Box E_life_Box h0.f_boxes]), (1010061, 98, [.mapc none true (α := S_api_Kept) (S_api_Kept.mk [] []) E_api_Kept h0.f_nets]), (1010062, 98, [.mapc none true (α := S_api_Kept) (S_api_Kept.mk [] []) E_api_Kept h0.f_vols])]) (ob := [(true = true → LookOkOb true E_api_Kept h0.f_vols (.inl a2) [.str [], .str []] (.tup [.agg [.str (((mlook h0.f_vols (.inl a2)).getD (S_api_Kept.mk [] [])).f_Name), .str (((mlook h0.f_vols (.inl a2)).getD (S_api_Kept.mk [] [])).f_Project)], .val (.bool ((mlook h0.f_vols (.inl a2)).isSome))]))]) (by kernel_rfl) (AllP.cons (fun _ => ⟨(S_api_Kept.mk [] []), .agg [.str (((mlook h0.f_vols (.inl a2)).getD (S_api_Kept.mk [] [])).f_Name), .str (((mlook h0.f_vols (.inl a2)).getD (S_api_Kept.mk [] [])).f_Project)], Weaks.of_eq (by kernel_rfl), by kernel_rfl, by kernel_rfl⟩) AllP.nil) ?_
  refine To.thenN ?_
  refine Wp.seq ?_
  refine Wp.region hΓ [] [] [] [0, 1, 2, 3, 20] [1000000, 1010060, 1010061, 1010062] (K' := [(0, .own 1000000 0), (1, .mp 1010062), (2, .str a2), (3, .fn 62 []), (20, .val (.bool (!((mlook h0.f_vols (.inl a2)).isSome))))]) (L' := [(1000000, 100, [.mp 1010060, .mp 1010061, .mp 1010062, .val (.int .i64 h0.f_last)]), (1010060, 96, [.mapc (some .i64) true (α := S_life_Box) Z_life_Box E_life_Box h0.f_boxes]), (1010061, 98, [.mapc none true (α := S_api_Kept) (S_api_Kept.mk [] []) E_api_Kept h0.f_nets]), (1010062, 98, [.mapc none true (α := S_api_Kept) (S_api_Kept.mk [] []) E_api_Kept h0.f_vols])]) (ob := []) (by kernel_rfl) AllP.nil ?_
  refine To.thenN ?_
  refine Wp.cond (b := (!((mlook h0.f_vols (.inl a2)).isSome))) (by kernel_rfl) (fun hb => ?_) (fun hb => ?_)
  · replace h := if_t hb h
    refine Wp.seq ?_
    refine Wp.region hΓ [] [] [] [8] [1000000, 1010060, 1010061, 1010062] (K' := [(8, .val (.int .i64 12))]) (L' := [(1000000, 100, [.mp 1010060, .mp 1010061, .mp 1010062, .val (.int .i64 h0.f_last)]), (1010060, 96, [.mapc (some .i64) true (α := S_life_Box) Z_life_Box E_life_Box h0.f_boxes]), (1010061, 98, [.mapc none true (α := S_api_Kept) (S_api_Kept.mk [] []) E_api_Kept h0.f_nets]), (1010062, 98, [.mapc none true (α := S_api_Kept) (S_api_Kept.mk [] []) E_api_Kept h0.f_vols])]) (ob := []) (by kernel_rfl) AllP.nil ?_
    refine To.thenN ?_
    refine Wp.ret ?_
    refine To.thenR ?_
    refine To.keep (kk := [8]) (kl := [1000000, 1010060, 1010061, 1010062]) (K' := [(8, .val (.int .i64 12))]) (L' := [(1000000, 100, [.mp 1010060, .mp 1010061, .mp 1010062, .val (.int .i64 h0.f_last)]), (1010060, 96, [.mapc (some .i64) true (α := S_life_Box) Z_life_Box E_life_Box h0.f_boxes]), (1010061, 98, [.mapc none true (α := S_api_Kept) (S_api_Kept.mk [] []) E_api_Kept h0.f_nets]), (1010062, 98, [.mapc none true (α := S_api_Kept) (S_api_Kept.mk [] []) E_api_Kept h0.f_vols])]) (by kernel_rfl) (by kernel_rfl) ?_
    cases h
    exact To.doneB hΓ [1000000, 1010060, 1010061, 1010062] (by kernel_rfl) (by kernel_rfl)
  · replace h := if_f hb h
    refine Wp.skip ?_
    refine To.thenN ?_
    refine Wp.seq ?_
    refine Wp.seq ?_
    refine Wp.rangeStart hΓ (t := 96) (s := 24) (u := 25) (k := 1010060) (ki := 25) (tt := 96) [] [] [] [1, 2, 3, 24] [1000000, 1010060, 1010061, 1010062] (K' := [(1, .mp 1010062), (2, .str a2), (3, .fn 62 []), (24, .mp 1010060)]) (L' := [(1000000, 100, [.mp 1010060, .mp 1010061, .mp 1010062, .val (.int .i64 h0.f_last)]), (1010060, 96, [.mapc (some .i64) true (α := S_life_Box) Z_life_Box E_life_Box h0.f_boxes]), (1010061, 98, [.mapc none true (α := S_api_Kept) (S_api_Kept.mk [] []) E_api_Kept h0.f_nets]), (1010062, 98, [.mapc none true (α := S_api_Kept) (S_api_Kept.mk [] []) E_api_Kept h0.f_vols])]) (ob := []) (by kernel_rfl) (Nat.le_of_ble_eq_true (by kernel_rfl)) (by kernel_rfl) AllP.nil (kd := (some .i64)) (sz := 25) (ag := true) (by kernel_rfl) (α := S_life_Box) (d := Z_life_Box) (enc := E_life_Box) (m := h0.f_boxes) (by kernel_rfl) (by kernel_rfl) (Nat.le_of_ble_eq_true (by kernel_rfl)) (by kernel_rfl) (by kernel_rfl) ?_
    intro b1 es1 clock1 r01
    refine To.keep (kk := [1, 2, 3, 25]) (kl := [25, 1000000, 1010060, 1010061, 1010062]) (K' := [(1, .mp 1010062), (2, .str a2), (3, .fn 62 []), (25, .val (.pointer (some ⟨r01, 0, none⟩)))]) (L' := [(25, 0, [iterD r01 b1 clock1 #[]]), (1000000, 100, [.mp 1010060, .mp 1010061, .mp 1010062, .val (.int .i64 h0.f_last)]), (1010060, 96, [lockD b1 es1 clock1 (some .i64) true (α := S_life_Box) E_life_Box h0.f_boxes]), (1010061, 98, [.mapc none true (α := S_api_Kept) (S_api_Kept.mk [] []) E_api_Kept h0.f_nets]), (1010062, 98, [.mapc none true (α := S_api_Kept) (S_api_Kept.mk [] []) E_api_Kept h0.f_vols])]) (by kernel_rfl) (by kernel_rfl) ?_
    refine To.thenN ?_
    refine Wp.block ?_
    obtain ⟨o2, ho2, h⟩ := bind_of h
    refine Wp.keep (kk := [1, 2, 3, 25]) (kl := [25, 1000000, 1010060, 1010061, 1010062]) (K' := [(1, .mp 1010062), (2, .str a2), (3, .fn 62 []), (25, .val (.pointer (some ⟨r01, 0, none⟩)))]) (L' := [(25, 0, [iterD r01 b1 clock1 #[]]), (1000000, 100, [.mp 1010060, .mp 1010061, .mp 1010062, .val (.int .i64 h0.f_last)]), (1010060, 96, [lockD b1 es1 clock1 (some .i64) true (α := S_life_Box) E_life_Box h0.f_boxes]), (1010061, 98, [.mapc none true (α := S_api_Kept) (S_api_Kept.mk [] []) E_api_Kept h0.f_nets]), (1010062, 98, [.mapc none true (α := S_api_Kept) (S_api_Kept.mk [] []) E_api_Kept h0.f_vols])]) (by kernel_rfl) (by kernel_rfl) ?_
    refine Wp.loopL ?_
    refine WL.mapRangeL (u := 25) (tn := 26) (tk := 27) (ki := 25) (t2 := 0) (k := 1010060) (tt := 96) (b := b1) (clock := clock1) (r := r01) (es := es1) (kd := (some .i64)) (ag := true) (α := S_life_Box) (enc := E_life_Box) (m := h0.f_boxes) (Lr := [(1000000, 100, [.mp 1010060, .mp 1010061, .mp 1010062, .val (.int .i64 h0.f_last)]), (1010061, 98, [.mapc none true (α := S_api_Kept) (S_api_Kept.mk [] []) E_api_Kept h0.f_nets]), (1010062, 98, [.mapc none true (α := S_api_Kept) (S_api_Kept.mk [] []) E_api_Kept h0.f_vols])]) (fun seen => [(25, 0, [iterD r01 b1 clock1 seen]), (1000000, 100, [.mp 1010060, .mp 1010061, .mp 1010062, .val (.int .i64 h0.f_last)]), (1010060, 96, [lockD b1 es1 clock1 (some .i64) true (α := S_life_Box) E_life_Box h0.f_boxes]), (1010061, 98, [.mapc none true (α := S_api_Kept) (S_api_Kept.mk [] []) E_api_Kept h0.f_nets]), (1010062, 98, [.mapc none true (α := S_api_Kept) (S_api_Kept.mk [] []) E_api_Kept h0.f_vols])]) (store_Store_drop__o0__m0n62__store_Store_Do_2_m1 n a2 h0) o2 (fun seen y Q' => To 38 F0 w0 [(8, .val (.int .i64 y))] [(25, 0, [iterD r01 b1 clock1 seen]), (1000000, 100, [.mp 1010060, .mp 1010061, .mp 1010062, .val (.int .i64 h0.f_last)]), (1010060, 96, [lockD b1 es1 clock1 (some .i64) true (α := S_life_Box) E_life_Box h0.f_boxes]), (1010061, 98, [.mapc none true (α := S_api_Kept) (S_api_Kept.mk [] []) E_api_Kept h0.f_nets]), (1010062, 98, [.mapc none true (α := S_api_Kept) (S_api_Kept.mk [] []) E_api_Kept h0.f_vols])] .ret Q') [25, 1010060, 1000000, 1010061, 1010062] [25, 1000000, 1010060, 1010061, 1010062] (fun seen => by kernel_rfl) (fun seen => by kernel_rfl) ⟨_, rfl, rfl⟩ rfl rfl rfl rfl rfl ⟨Nat.le_of_ble_eq_true (by kernel_rfl), Nat.le_of_ble_eq_true (by kernel_rfl)⟩ (by kernel_rfl) (by kernel_rfl) (by decide) (by kernel_rfl) ho2 (fun seen em j x s hj hx hs Q' hQ => ok_store_Store_drop__o0__m0n62__store_Store_Do_2_m1 n a2 h0 x s hs hj hx hQ) (fun he seen => ?_) (fun seen y he => ?_)
    · cases he
      replace h := sum_l h
      refine To.pre (St.unlock (t := 96) (b := b1) (es := es1) (clock := clock1) (kk := (some .i64)) (ag := true) (α := S_life_Box) (enc := E_life_Box) (l := h0.f_boxes) 1010060 Z_life_Box (by kernel_rfl) (L' := [(1010060, 96, [.mapc (some .i64) true (α := S_life_Box) Z_life_Box E_life_Box h0.f_boxes]), (25, 0, [iterD r01 b1 clock1 seen]), (1000000, 100, [.mp 1010060, .mp 1010061, .mp 1010062, .val (.int .i64 h0.f_last)]), (1010061, 98, [.mapc none true (α := S_api_Kept) (S_api_Kept.mk [] []) E_api_Kept h0.f_nets]), (1010062, 98, [.mapc none true (α := S_api_Kept) (S_api_Kept.mk [] []) E_api_Kept h0.f_vols])]) (by kernel_rfl)) ?_
      refine To.keep (kk := [1, 2, 3]) (kl := [1000000, 1010060, 1010061, 1010062]) (K' := [(1, .mp 1010062), (2, .str a2), (3, .fn 62 [])]) (L' := [(1000000, 100, [.mp 1010060, .mp 1010061, .mp 1010062, .val (.int .i64 h0.f_last)]), (1010060, 96, [.mapc (some .i64) true (α := S_life_Box) Z_life_Box E_life_Box h0.f_boxes]), (1010061, 98, [.mapc none true (α := S_api_Kept) (S_api_Kept.mk [] []) E_api_Kept h0.f_nets]), (1010062, 98, [.mapc none true (α := S_api_Kept) (S_api_Kept.mk [] []) E_api_Kept h0.f_vols])]) (by kernel_rfl) (by kernel_rfl) ?_
      refine To.blockX ?_
      refine To.thenN ?_
      refine Wp.seq ?_
      refine Wp.region hΓ [] [] [] [] [1000000, 1010060, 1010061, 1010062] (K' := []) (L' := [(1000000, 100, [.mp 1010060, .mp 1010061, .mp 1010062, .val (.int .i64 h0.f_last)]), (1010060, 96, [.mapc (some .i64) true (α := S_life_Box) Z_life_Box E_life_Box h0.f_boxes]), (1010061, 98, [.mapc none true (α := S_api_Kept) (S_api_Kept.mk [] []) E_api_Kept h0.f_nets]), (1010062, 98, [.mapc none true (α := S_api_Kept) (S_api_Kept.mk [] []) E_api_Kept (mdel h0.f_vols (.inl a2))])]) (ob := []) (by kernel_rfl) AllP.nil ?_
      refine To.thenN ?_
      refine Wp.seq ?_
      refine Wp.region hΓ [] [] [] [8] [1000000, 1010060, 1010061, 1010062] (K' := [(8, .val (.int .i64 0))]) (L' := [(1000000, 100, [.mp 1010060, .mp 1010061, .mp 1010062, .val (.int .i64 h0.f_last)]), (1010060, 96, [.mapc (some .i64) true (α := S_life_Box) Z_life_Box E_life_Box h0.f_boxes]), (1010061, 98, [.mapc none true (α := S_api_Kept) (S_api_Kept.mk [] []) E_api_Kept h0.f_nets]), (1010062, 98, [.mapc none true (α := S_api_Kept) (S_api_Kept.mk [] []) E_api_Kept (mdel h0.f_vols (.inl a2))])]) (ob := []) (by kernel_rfl) AllP.nil ?_
      refine To.thenN ?_
      refine Wp.ret ?_
      refine To.keep (kk := [8]) (kl := [1000000, 1010060, 1010061, 1010062]) (K' := [(8, .val (.int .i64 0))]) (L' := [(1000000, 100, [.mp 1010060, .mp 1010061, .mp 1010062, .val (.int .i64 h0.f_last)]), (1010060, 96, [.mapc (some .i64) true (α := S_life_Box) Z_life_Box E_life_Box h0.f_boxes]), (1010061, 98, [.mapc none true (α := S_api_Kept) (S_api_Kept.mk [] []) E_api_Kept h0.f_nets]), (1010062, 98, [.mapc none true (α := S_api_Kept) (S_api_Kept.mk [] []) E_api_Kept (mdel h0.f_vols (.inl a2))])]) (by kernel_rfl) (by kernel_rfl) ?_
      cases h
      exact To.doneB hΓ [1000000, 1010060, 1010061, 1010062] (by kernel_rfl) (by kernel_rfl)
    · cases he
      replace h := sum_r h
      refine To.thenR ?_
      refine To.pre (St.unlock (t := 96) (b := b1) (es := es1) (clock := clock1) (kk := (some .i64)) (ag := true) (α := S_life_Box) (enc := E_life_Box) (l := h0.f_boxes) 1010060 Z_life_Box (by kernel_rfl) (L' := [(1010060, 96, [.mapc (some .i64) true (α := S_life_Box) Z_life_Box E_life_Box h0.f_boxes]), (25, 0, [iterD r01 b1 clock1 seen]), (1000000, 100, [.mp 1010060, .mp 1010061, .mp 1010062, .val (.int .i64 h0.f_last)]), (1010061, 98, [.mapc none true (α := S_api_Kept) (S_api_Kept.mk [] []) E_api_Kept h0.f_nets]), (1010062, 98, [.mapc none true (α := S_api_Kept) (S_api_Kept.mk [] []) E_api_Kept h0.f_vols])]) (by kernel_rfl)) ?_
      refine To.keep (kk := [8]) (kl := [1000000, 1010060, 1010061, 1010062]) (K' := [(8, .val (.int .i64 y))]) (L' := [(1000000, 100, [.mp 1010060, .mp 1010061, .mp 1010062, .val (.int .i64 h0.f_last)]), (1010060, 96, [.mapc (some .i64) true (α := S_life_Box) Z_life_Box E_life_Box h0.f_boxes]), (1010061, 98, [.mapc none true (α := S_api_Kept) (S_api_Kept.mk [] []) E_api_Kept h0.f_nets]), (1010062, 98, [.mapc none true (α := S_api_Kept) (S_api_Kept.mk [] []) E_api_Kept h0.f_vols])]) (by kernel_rfl) (by kernel_rfl) ?_
      refine To.blockR ?_
      refine To.thenR ?_
      refine To.keep (kk := [8]) (kl := [1000000, 1010060, 1010061, 1010062]) (K' := [(8, .val (.int .i64 y))]) (L' := [(1000000, 100, [.mp 1010060, .mp 1010061, .mp 1010062, .val (.int .i64 h0.f_last)]), (1010060, 96, [.mapc (some .i64) true (α := S_life_Box) Z_life_Box E_life_Box h0.f_boxes]), (1010061, 98, [.mapc none true (α := S_api_Kept) (S_api_Kept.mk [] []) E_api_Kept h0.f_nets]), (1010062, 98, [.mapc none true (α := S_api_Kept) (S_api_Kept.mk [] []) E_api_Kept h0.f_vols])]) (by kernel_rfl) (by kernel_rfl) ?_
      cases h
      exact To.doneB hΓ [1000000, 1010060, 1010061, 1010062] (by kernel_rfl) (by kernel_rfl)
def store_shelf_has_1__o0 (a0 : List UInt8) (h0 : List (MK × S_api_Kept)) : Bool × (List (MK × S_api_Kept)) :=
  ((!((mlook h0 (.inl a0)).isSome)), h0)
theorem ok_store_shelf_has_1__o0 (a0 : List UInt8) (h0 : List (MK × S_api_Kept)) (r : Bool × (List (MK × S_api_Kept))) (h : store_shelf_has_1__o0 a0 h0 = r) : CallsB Try.prog 99 [.str a0, .own 1000000 0] [(1000000, 98, [.mp 1010060]), (1010060, 98, [.mapc none true (α := S_api_Kept) (S_api_Kept.mk [] []) E_api_Kept h0])] (.val (.bool r.1)) [(1000000, 98, [.mp 1010060]), (1010060, 98, [.mapc none true (α := S_api_Kept) (S_api_Kept.mk [] []) E_api_Kept r.2])] := by
  unfold store_shelf_has_1__o0 at h
  refine callsB_of (fn := Try.f99) (by kernel_rfl) rfl (by kernel_rfl) (Nat.le_of_ble_eq_true (by kernel_rfl)) fun F0 w0 => ?_
  refine Wp.keep (kk := [0, 1]) (kl := [1000000, 1010060]) (K' := [(0, .str a0), (1, .own 1000000 0)]) (L' := [(1000000, 98, [.mp 1010060]), (1010060, 98, [.mapc none true (α := S_api_Kept) (S_api_Kept.mk [] []) E_api_Kept h0])]) (by kernel_rfl) (by kernel_rfl) ?_
  refine Wp.seq ?_
  refine Wp.region hΓ [] [] [] [0, 1] [1000000, 1010060] (K' := [(0, .str a0), (1, .own 1000000 0)]) (L' := [(1000000, 98, [.mp 1010060]), (1010060, 98, [.mapc none true (α := S_api_Kept) (S_api_Kept.mk [] []) E_api_Kept h0])]) (ob := []) (by kernel_rfl) AllP.nil ?_
  refine To.thenN ?_
  refine Wp.seq ?_
  refine Wp.region hΓ [] [(2, .tup [.agg [.str (((mlook h0 (.inl a0)).getD (S_api_Kept.mk [] [])).f_Name), .str (((mlook h0 (.inl a0)).getD (S_api_Kept.mk [] [])).f_Project)], .val (.bool ((mlook h0 (.inl a0)).isSome))])] [] [5] [1000000, 1010060] (K' := [(5, .val (.bool ((mlook h0 (.inl a0)).isSome)))]) (L' := [(1000000, 98, [.mp 1010060]), (1010060, 98, [.mapc none true (α := S_api_Kept) (S_api_Kept.mk [] []) E_api_Kept h0])]) (ob := [(true = true → LookOkOb true E_api_Kept h0 (.inl a0) [.str [], .str []] (.tup [.agg [.str (((mlook h0 (.inl a0)).getD (S_api_Kept.mk [] [])).f_Name), .str (((mlook h0 (.inl a0)).getD (S_api_Kept.mk [] [])).f_Project)], .val (.bool ((mlook h0 (.inl a0)).isSome))]))]) (by kernel_rfl) (AllP.cons (fun _ => ⟨(S_api_Kept.mk [] []), .agg [.str (((mlook h0 (.inl a0)).getD (S_api_Kept.mk [] [])).f_Name), .str (((mlook h0 (.inl a0)).getD (S_api_Kept.mk [] [])).f_Project)], Weaks.of_eq (by kernel_rfl), by kernel_rfl, by kernel_rfl⟩) AllP.nil) ?_
  refine To.thenN ?_
  refine Wp.seq ?_
  refine Wp.region hΓ [] [] [] [3] [1000000, 1010060] (K' := [(3, .val (.bool (!((mlook h0 (.inl a0)).isSome))))]) (L' := [(1000000, 98, [.mp 1010060]), (1010060, 98, [.mapc none true (α := S_api_Kept) (S_api_Kept.mk [] []) E_api_Kept h0])]) (ob := []) (by kernel_rfl) AllP.nil ?_
  refine To.thenN ?_
  refine Wp.ret ?_
  refine To.keep (kk := [3]) (kl := [1000000, 1010060]) (K' := [(3, .val (.bool (!((mlook h0 (.inl a0)).isSome))))]) (L' := [(1000000, 98, [.mp 1010060]), (1010060, 98, [.mapc none true (α := S_api_Kept) (S_api_Kept.mk [] []) E_api_Kept h0])]) (by kernel_rfl) (by kernel_rfl) ?_
  cases h
  exact To.doneB hΓ [1000000, 1010060] (by kernel_rfl) (by kernel_rfl)
def slices_IndexFunc_string_string__store_shelf_has_1_o0_l1 (n : Nat) (v0 : List (List UInt8)) (v7 : Int) : Nat → Int → (List (MK × S_api_Kept)) → Option (Sum ((List (MK × S_api_Kept))) (Int × (List (MK × S_api_Kept))))
  | 0, _, _ => none
  | k + 1, v8, b1000000 => if (decide (v8 < v7)) = true then (if (decide (0 ≤ v8 ∧ v8 < (List.length v0 : Int))) = true then (lett (store_shelf_has_1__o0 ((v0)[Int.toNat v8]?.getD []) b1000000) fun r1 =>
  if r1.1 = true then (some (.inr (v8, r1.2)))
  else (slices_IndexFunc_string_string__store_shelf_has_1_o0_l1 n v0 v7 k (IntKind.wrap .i64 (v8 + 1)) r1.2)) else none)
  else (some (.inl b1000000))
theorem ok_slices_IndexFunc_string_string__store_shelf_has_1_o0_l1 (n : Nat) (v0 : List (List UInt8)) (v7 : Int) {F0 : Fz} {w0 : Pt Try.prog} {Q : Exit → Act → World → Prop} (k : Nat) : ∀ (v8 : Int) (b1000000 : List (MK × S_api_Kept)) (o : Sum ((List (MK × S_api_Kept))) (Int × (List (MK × S_api_Kept)))), slices_IndexFunc_string_string__store_shelf_has_1_o0_l1 n v0 v7 k v8 b1000000 = some o → (Sum.elim (fun s => To 19 F0 w0 [] [(1000000, 98, [.mp 1010060]), (1010060, 98, [.mapc none true (α := S_api_Kept) (S_api_Kept.mk [] []) E_api_Kept s])] (.exit 0) Q) (fun s => To 19 F0 w0 [(4, .val (.int .i64 s.1))] [(1000000, 98, [.mp 1010060]), (1010060, 98, [.mapc none true (α := S_api_Kept) (S_api_Kept.mk [] []) E_api_Kept s.2])] .ret Q)) o → WL Try.prog 19 F0 w0 [(0, .recs (α := List UInt8) [] E_string v0), (1, .fn 99 [.own 1000000 0]), (7, .val (.int .i64 v7)), (8, .val (.int .i64 v8))] [(1000000, 98, [.mp 1010060]), (1010060, 98, [.mapc none true (α := S_api_Kept) (S_api_Kept.mk [] []) E_api_Kept b1000000])] (cI (cI (cB (cA (cB (cF Try.f116)))))) Q := by
  induction k with
  | zero => intro v8 b1000000 o h; cases h
  | succ k ih =>
    intro v8 b1000000 o h hQ
    rw [slices_IndexFunc_string_string__store_shelf_has_1_o0_l1] at h
    refine WL.round ?_
    refine Wp.seq ?_
    refine Wp.region hΓ [] [] [] [0, 1, 7, 8, 9] [1000000, 1010060] (K' := [(0, .recs (α := List UInt8) [] E_string v0), (1, .fn 99 [.own 1000000 0]), (7, .val (.int .i64 v7)), (8, .val (.int .i64 v8)), (9, .val (.bool (decide (v8 < v7))))]) (L' := [(1000000, 98, [.mp 1010060]), (1010060, 98, [.mapc none true (α := S_api_Kept) (S_api_Kept.mk [] []) E_api_Kept b1000000])]) (ob := []) (by kernel_rfl) AllP.nil ?_
    refine To.thenN ?_
    refine Wp.seq ?_
    refine Wp.cond (b := (decide (v8 < v7))) (by kernel_rfl) (fun hb => ?_) (fun hb => ?_)
    · replace h := if_t hb h
      refine Wp.skip ?_
      refine To.thenN ?_
      refine Wp.seq ?_
      refine Wp.block ?_
      refine Wp.seq ?_
      refine Wp.region hΓ [] [] [] [0, 1, 5, 7, 8] [1000000, 1010060] (K' := [(0, .recs (α := List UInt8) [] E_string v0), (1, .fn 99 [.own 1000000 0]), (5, .val (.int .i64 v8)), (7, .val (.int .i64 v7)), (8, .val (.int .i64 v8))]) (L' := [(1000000, 98, [.mp 1010060]), (1010060, 98, [.mapc none true (α := S_api_Kept) (S_api_Kept.mk [] []) E_api_Kept b1000000])]) (ob := []) (by kernel_rfl) AllP.nil ?_
      refine To.thenN ?_
      refine Wp.seq ?_
      obtain ⟨hc2, h⟩ := chk_of h
      obtain ⟨r1, hr1, h⟩ := lett_of h
      refine Wp.region hΓ [] [] [(5, ⟨[(1000000, 1000000), (1010060, 1010060)], [(1000000, 1000000), (1010060, 1010060)], [.str ((v0)[Int.toNat v8]?.getD []), .own 1000000 0], [(1000000, 98, [.mp 1010060]), (1010060, 98, [.mapc none true (α := S_api_Kept) (S_api_Kept.mk [] []) E_api_Kept b1000000])], .val (.bool r1.1), [(1000000, 98, [.mp 1010060]), (1010060, 98, [.mapc none true (α := S_api_Kept) (S_api_Kept.mk [] []) E_api_Kept r1.2])]⟩)] [0, 1, 5, 7, 8, 16] [1000000, 1010060] (K' := [(0, .recs (α := List UInt8) [] E_string v0), (1, .fn 99 [.own 1000000 0]), (5, .val (.int .i64 v8)), (7, .val (.int .i64 v7)), (8, .val (.int .i64 v8)), (16, .val (.bool r1.1))]) (L' := [(1000000, 98, [.mp 1010060]), (1010060, 98, [.mapc none true (α := S_api_Kept) (S_api_Kept.mk [] []) E_api_Kept r1.2])]) (ob := [(decide (0 ≤ v8 ∧ v8 < (List.length v0 : Int))) = true, CbOb (CallsB Try.prog) 99 [.str ((v0)[Int.toNat v8]?.getD []), .own 1000000 0] [some (98, [.mp 1010060]), some (98, [.mapc none true (α := S_api_Kept) (S_api_Kept.mk [] []) E_api_Kept b1000000])] ⟨[(1000000, 1000000), (1010060, 1010060)], [(1000000, 1000000), (1010060, 1010060)], [.str ((v0)[Int.toNat v8]?.getD []), .own 1000000 0], [(1000000, 98, [.mp 1010060]), (1010060, 98, [.mapc none true (α := S_api_Kept) (S_api_Kept.mk [] []) E_api_Kept b1000000])], .val (.bool r1.1), [(1000000, 98, [.mp 1010060]), (1010060, 98, [.mapc none true (α := S_api_Kept) (S_api_Kept.mk [] []) E_api_Kept r1.2])]⟩]) (by kernel_rfl) (AllP.cons hc2 (AllP.cons (⟨(ok_store_shelf_has_1__o0 ((v0)[Int.toNat v8]?.getD []) b1000000 _ hr1), by kernel_rfl, by kernel_rfl⟩) AllP.nil)) ?_
      refine To.thenN ?_
      refine Wp.cond (b := r1.1) (by kernel_rfl) (fun hb => ?_) (fun hb => ?_)
      · replace h := if_t hb h
        refine Wp.seq ?_
        refine Wp.region hΓ [] [] [] [4] [1000000, 1010060] (K' := [(4, .val (.int .i64 v8))]) (L' := [(1000000, 98, [.mp 1010060]), (1010060, 98, [.mapc none true (α := S_api_Kept) (S_api_Kept.mk [] []) E_api_Kept r1.2])]) (ob := []) (by kernel_rfl) AllP.nil ?_
        refine To.thenN ?_
        refine Wp.ret ?_
        refine To.blockR ?_
        refine To.thenR ?_
        refine To.thenR ?_
        refine To.keep (kk := [4]) (kl := [1000000, 1010060]) (K' := [(4, .val (.int .i64 v8))]) (L' := [(1000000, 98, [.mp 1010060]), (1010060, 98, [.mapc none true (α := S_api_Kept) (S_api_Kept.mk [] []) E_api_Kept r1.2])]) (by kernel_rfl) (by kernel_rfl) ?_
        cases h
        exact hQ
      · replace h := if_f hb h
        refine Wp.skip ?_
        refine To.blockN ?_
        refine To.thenN ?_
        refine Wp.region hΓ [] [] [] [0, 1, 7, 8] [1000000, 1010060] (K' := [(0, .recs (α := List UInt8) [] E_string v0), (1, .fn 99 [.own 1000000 0]), (7, .val (.int .i64 v7)), (8, .val (.int .i64 (IntKind.wrap .i64 (v8 + 1))))]) (L' := [(1000000, 98, [.mp 1010060]), (1010060, 98, [.mapc none true (α := S_api_Kept) (S_api_Kept.mk [] []) E_api_Kept r1.2])]) (ob := []) (by kernel_rfl) AllP.nil ?_
        refine To.keep (kk := [0, 1, 7, 8]) (kl := [1000000, 1010060]) (K' := [(0, .recs (α := List UInt8) [] E_string v0), (1, .fn 99 [.own 1000000 0]), (7, .val (.int .i64 v7)), (8, .val (.int .i64 (IntKind.wrap .i64 (v8 + 1))))]) (L' := [(1000000, 98, [.mp 1010060]), (1010060, 98, [.mapc none true (α := S_api_Kept) (S_api_Kept.mk [] []) E_api_Kept r1.2])]) (by kernel_rfl) (by kernel_rfl) ?_
        refine To.again ?_
        exact ih (IntKind.wrap .i64 (v8 + 1)) r1.2 _ h hQ
    · replace h := if_f hb h
      refine Wp.exit ?_
      refine To.thenX ?_
      refine To.thenX ?_
      refine To.keep (kk := []) (kl := [1000000, 1010060]) (K' := []) (L' := [(1000000, 98, [.mp 1010060]), (1010060, 98, [.mapc none true (α := S_api_Kept) (S_api_Kept.mk [] []) E_api_Kept b1000000])]) (by kernel_rfl) (by kernel_rfl) ?_
      cases h
      exact hQ
def slices_IndexFunc_string_string__store_shelf_has_1_o0 (n : Nat) (a0 : List (List UInt8)) (h0 : List (MK × S_api_Kept)) : Option (Int × (List (MK × S_api_Kept))) :=
  (slices_IndexFunc_string_string__store_shelf_has_1_o0_l1 n a0 (List.length a0 : Int) n 0 h0).bind fun o1 =>
  (Sum.elim (fun o1 => some ((-1), o1)) (fun o1 => some (o1.1, o1.2))) o1
theorem ok_slices_IndexFunc_string_string__store_shelf_has_1_o0 (n : Nat) (a0 : List (List UInt8)) (h0 : List (MK × S_api_Kept)) (r : Int × (List (MK × S_api_Kept))) (h : slices_IndexFunc_string_string__store_shelf_has_1_o0 n a0 h0 = some r) : CallsB Try.prog 116 [.recs (α := List UInt8) [] E_string a0, .fn 99 [.own 1000000 0]] [(1000000, 98, [.mp 1010060]), (1010060, 98, [.mapc none true (α := S_api_Kept) (S_api_Kept.mk [] []) E_api_Kept h0])] (.val (.int .i64 r.1)) [(1000000, 98, [.mp 1010060]), (1010060, 98, [.mapc none true (α := S_api_Kept) (S_api_Kept.mk [] []) E_api_Kept r.2])] := by
  unfold slices_IndexFunc_string_string__store_shelf_has_1_o0 at h
  refine callsB_of (fn := Try.f116) (by kernel_rfl) rfl (by kernel_rfl) (Nat.le_of_ble_eq_true (by kernel_rfl)) fun F0 w0 => ?_
  refine Wp.keep (kk := [0, 1]) (kl := [1000000, 1010060]) (K' := [(0, .recs (α := List UInt8) [] E_string a0), (1, .fn 99 [.own 1000000 0])]) (L' := [(1000000, 98, [.mp 1010060]), (1010060, 98, [.mapc none true (α := S_api_Kept) (S_api_Kept.mk [] []) E_api_Kept h0])]) (by kernel_rfl) (by kernel_rfl) ?_
  refine Wp.seq ?_
  refine Wp.region hΓ [] [] [] [0, 1] [1000000, 1010060] (K' := [(0, .recs (α := List UInt8) [] E_string a0), (1, .fn 99 [.own 1000000 0])]) (L' := [(1000000, 98, [.mp 1010060]), (1010060, 98, [.mapc none true (α := S_api_Kept) (S_api_Kept.mk [] []) E_api_Kept h0])]) (ob := []) (by kernel_rfl) AllP.nil ?_
  refine To.thenN ?_
  refine Wp.seq ?_
  refine Wp.seq ?_
  refine Wp.region hΓ [] [] [] [0, 1, 7, 8] [1000000, 1010060] (K' := [(0, .recs (α := List UInt8) [] E_string a0), (1, .fn 99 [.own 1000000 0]), (7, .val (.int .i64 (List.length a0 : Int))), (8, .val (.int .i64 0))]) (L' := [(1000000, 98, [.mp 1010060]), (1010060, 98, [.mapc none true (α := S_api_Kept) (S_api_Kept.mk [] []) E_api_Kept h0])]) (ob := []) (by kernel_rfl) AllP.nil ?_
  refine To.thenN ?_
  refine Wp.block ?_
  obtain ⟨o1, ho1, h⟩ := bind_of h
  refine Wp.keep (kk := [0, 1, 7, 8]) (kl := [1000000, 1010060]) (K' := [(0, .recs (α := List UInt8) [] E_string a0), (1, .fn 99 [.own 1000000 0]), (7, .val (.int .i64 (List.length a0 : Int))), (8, .val (.int .i64 0))]) (L' := [(1000000, 98, [.mp 1010060]), (1010060, 98, [.mapc none true (α := S_api_Kept) (S_api_Kept.mk [] []) E_api_Kept h0])]) (by kernel_rfl) (by kernel_rfl) ?_
  refine Wp.loopL ?_
  refine ok_slices_IndexFunc_string_string__store_shelf_has_1_o0_l1 n a0 (List.length a0 : Int) n 0 h0 o1 ho1 ?_
  rcases o1 with o1 | o1
  · replace h := sum_l h
    refine To.blockX ?_
    refine To.thenN ?_
    refine Wp.seq ?_
    refine Wp.region hΓ [] [] [] [4] [1000000, 1010060] (K' := [(4, .val (.int .i64 (-1)))]) (L' := [(1000000, 98, [.mp 1010060]), (1010060, 98, [.mapc none true (α := S_api_Kept) (S_api_Kept.mk [] []) E_api_Kept o1])]) (ob := []) (by kernel_rfl) AllP.nil ?_
    refine To.thenN ?_
    refine Wp.ret ?_
    refine To.keep (kk := [4]) (kl := [1000000, 1010060]) (K' := [(4, .val (.int .i64 (-1)))]) (L' := [(1000000, 98, [.mp 1010060]), (1010060, 98, [.mapc none true (α := S_api_Kept) (S_api_Kept.mk [] []) E_api_Kept o1])]) (by kernel_rfl) (by kernel_rfl) ?_
    cases h
    exact To.doneB hΓ [1000000, 1010060] (by kernel_rfl) (by kernel_rfl)
  · replace h := sum_r h
    refine To.blockR ?_
    refine To.thenR ?_
    refine To.keep (kk := [4]) (kl := [1000000, 1010060]) (K' := [(4, .val (.int .i64 o1.1))]) (L' := [(1000000, 98, [.mp 1010060]), (1010060, 98, [.mapc none true (α := S_api_Kept) (S_api_Kept.mk [] []) E_api_Kept o1.2])]) (by kernel_rfl) (by kernel_rfl) ?_
    cases h
    exact To.doneB hΓ [1000000, 1010060] (by kernel_rfl) (by kernel_rfl)
def slices_ContainsFunc_string_string__store_shelf_has_1_o0 (n : Nat) (a0 : List (List UInt8)) (h0 : List (MK × S_api_Kept)) : Option (Bool × (List (MK × S_api_Kept))) :=
  (slices_IndexFunc_string_string__store_shelf_has_1_o0 n a0 h0).bind fun r1 =>
  some ((decide (r1.1 ≥ 0)), r1.2)
theorem ok_slices_ContainsFunc_string_string__store_shelf_has_1_o0 (n : Nat) (a0 : List (List UInt8)) (h0 : List (MK × S_api_Kept)) (r : Bool × (List (MK × S_api_Kept))) (h : slices_ContainsFunc_string_string__store_shelf_has_1_o0 n a0 h0 = some r) : CallsB Try.prog 98 [.recs (α := List UInt8) [] E_string a0, .fn 99 [.own 1000000 0]] [(1000000, 98, [.mp 1010060]), (1010060, 98, [.mapc none true (α := S_api_Kept) (S_api_Kept.mk [] []) E_api_Kept h0])] (.val (.bool r.1)) [(1000000, 98, [.mp 1010060]), (1010060, 98, [.mapc none true (α := S_api_Kept) (S_api_Kept.mk [] []) E_api_Kept r.2])] := by
  unfold slices_ContainsFunc_string_string__store_shelf_has_1_o0 at h
  refine callsB_of (fn := Try.f98) (by kernel_rfl) rfl (by kernel_rfl) (Nat.le_of_ble_eq_true (by kernel_rfl)) fun F0 w0 => ?_
  refine Wp.keep (kk := [0, 1]) (kl := [1000000, 1010060]) (K' := [(0, .recs (α := List UInt8) [] E_string a0), (1, .fn 99 [.own 1000000 0])]) (L' := [(1000000, 98, [.mp 1010060]), (1010060, 98, [.mapc none true (α := S_api_Kept) (S_api_Kept.mk [] []) E_api_Kept h0])]) (by kernel_rfl) (by kernel_rfl) ?_
  refine Wp.seq ?_
  refine Wp.region hΓ [] [] [] [0, 1] [1000000, 1010060] (K' := [(0, .recs (α := List UInt8) [] E_string a0), (1, .fn 99 [.own 1000000 0])]) (L' := [(1000000, 98, [.mp 1010060]), (1010060, 98, [.mapc none true (α := S_api_Kept) (S_api_Kept.mk [] []) E_api_Kept h0])]) (ob := []) (by kernel_rfl) AllP.nil ?_
  refine To.thenN ?_
  refine Wp.seq ?_
  obtain ⟨r1, hr1, h⟩ := bind_of h
  refine Wp.region hΓ [] [] [(2, ⟨[(1000000, 1000000), (1010060, 1010060)], [(1000000, 1000000), (1010060, 1010060)], [.recs (α := List UInt8) [] E_string a0, .fn 99 [.own 1000000 0]], [(1000000, 98, [.mp 1010060]), (1010060, 98, [.mapc none true (α := S_api_Kept) (S_api_Kept.mk [] []) E_api_Kept h0])], .val (.int .i64 r1.1), [(1000000, 98, [.mp 1010060]), (1010060, 98, [.mapc none true (α := S_api_Kept) (S_api_Kept.mk [] []) E_api_Kept r1.2])]⟩)] [4] [1000000, 1010060] (K' := [(4, .val (.bool (decide (r1.1 ≥ 0))))]) (L' := [(1000000, 98, [.mp 1010060]), (1010060, 98, [.mapc none true (α := S_api_Kept) (S_api_Kept.mk [] []) E_api_Kept r1.2])]) (ob := [CbOb (CallsB Try.prog) 116 [.recs (α := List UInt8) [] E_string a0, .fn 99 [.own 1000000 0]] [some (98, [.mp 1010060]), some (98, [.mapc none true (α := S_api_Kept) (S_api_Kept.mk [] []) E_api_Kept h0])] ⟨[(1000000, 1000000), (1010060, 1010060)], [(1000000, 1000000), (1010060, 1010060)], [.recs (α := List UInt8) [] E_string a0, .fn 99 [.own 1000000 0]], [(1000000, 98, [.mp 1010060]), (1010060, 98, [.mapc none true (α := S_api_Kept) (S_api_Kept.mk [] []) E_api_Kept h0])], .val (.int .i64 r1.1), [(1000000, 98, [.mp 1010060]), (1010060, 98, [.mapc none true (α := S_api_Kept) (S_api_Kept.mk [] []) E_api_Kept r1.2])]⟩]) (by kernel_rfl) (AllP.cons (⟨(ok_slices_IndexFunc_string_string__store_shelf_has_1_o0 n a0 h0 _ hr1), by kernel_rfl, by kernel_rfl⟩) AllP.nil) ?_
  refine To.thenN ?_
  refine Wp.ret ?_
  refine To.keep (kk := [4]) (kl := [1000000, 1010060]) (K' := [(4, .val (.bool (decide (r1.1 ≥ 0))))]) (L' := [(1000000, 98, [.mp 1010060]), (1010060, 98, [.mapc none true (α := S_api_Kept) (S_api_Kept.mk [] []) E_api_Kept r1.2])]) (by kernel_rfl) (by kernel_rfl) ?_
  cases h
  exact To.doneB hΓ [1000000, 1010060] (by kernel_rfl) (by kernel_rfl)
def store_shelf_has__m0 (n : Nat) (a1 : List (List UInt8)) (h0 : List (MK × S_api_Kept)) : Option (Bool × (List (MK × S_api_Kept))) :=
  (slices_ContainsFunc_string_string__store_shelf_has_1_o0 n a1 h0).bind fun r1 =>
  some ((!r1.1), r1.2)
theorem ok_store_shelf_has__m0 (n : Nat) (a1 : List (List UInt8)) (h0 : List (MK × S_api_Kept)) (r : Bool × (List (MK × S_api_Kept))) (h : store_shelf_has__m0 n a1 h0 = some r) : CallsB Try.prog 83 [.mp 1000000, .recs (α := List UInt8) [] E_string a1] [(1000000, 98, [.mapc none true (α := S_api_Kept) (S_api_Kept.mk [] []) E_api_Kept h0])] (.val (.bool r.1)) [(1000000, 98, [.mapc none true (α := S_api_Kept) (S_api_Kept.mk [] []) E_api_Kept r.2])] := by
  unfold store_shelf_has__m0 at h
  refine callsB_of (fn := Try.f83) (by kernel_rfl) rfl (by kernel_rfl) (Nat.le_of_ble_eq_true (by kernel_rfl)) fun F0 w0 => ?_
  refine Wp.keep (kk := [0, 1]) (kl := [1000000]) (K' := [(0, .mp 1000000), (1, .recs (α := List UInt8) [] E_string a1)]) (L' := [(1000000, 98, [.mapc none true (α := S_api_Kept) (S_api_Kept.mk [] []) E_api_Kept h0])]) (by kernel_rfl) (by kernel_rfl) ?_
  refine Wp.seq ?_
  refine Wp.region hΓ [] [] [] [1, 2] [2, 1000000] (K' := [(1, .recs (α := List UInt8) [] E_string a1), (2, .own 2 0)]) (L' := [(2, 98, [.mp 1000000]), (1000000, 98, [.mapc none true (α := S_api_Kept) (S_api_Kept.mk [] []) E_api_Kept h0])]) (ob := []) (by kernel_rfl) AllP.nil ?_
  refine To.thenN ?_
  refine Wp.seq ?_
  obtain ⟨r1, hr1, h⟩ := bind_of h
  refine Wp.region hΓ [] [] [(2, ⟨[(1000000, 2), (1010060, 1000000)], [(1000000, 2), (1010060, 1000000)], [.recs (α := List UInt8) [] E_string a1, .fn 99 [.own 1000000 0]], [(1000000, 98, [.mp 1010060]), (1010060, 98, [.mapc none true (α := S_api_Kept) (S_api_Kept.mk [] []) E_api_Kept h0])], .val (.bool r1.1), [(1000000, 98, [.mp 1010060]), (1010060, 98, [.mapc none true (α := S_api_Kept) (S_api_Kept.mk [] []) E_api_Kept r1.2])]⟩)] [4] [1000000] (K' := [(4, .val (.bool (!r1.1)))]) (L' := [(1000000, 98, [.mapc none true (α := S_api_Kept) (S_api_Kept.mk [] []) E_api_Kept r1.2])]) (ob := [CbOb (CallsB Try.prog) 98 [.recs (α := List UInt8) [] E_string a1, .fn 99 [.own 2 0]] [some (98, [.mp 1000000]), some (98, [.mapc none true (α := S_api_Kept) (S_api_Kept.mk [] []) E_api_Kept h0])] ⟨[(1000000, 2), (1010060, 1000000)], [(1000000, 2), (1010060, 1000000)], [.recs (α := List UInt8) [] E_string a1, .fn 99 [.own 1000000 0]], [(1000000, 98, [.mp 1010060]), (1010060, 98, [.mapc none true (α := S_api_Kept) (S_api_Kept.mk [] []) E_api_Kept h0])], .val (.bool r1.1), [(1000000, 98, [.mp 1010060]), (1010060, 98, [.mapc none true (α := S_api_Kept) (S_api_Kept.mk [] []) E_api_Kept r1.2])]⟩]) (by kernel_rfl) (AllP.cons (⟨(ok_slices_ContainsFunc_string_string__store_shelf_has_1_o0 n a1 h0 _ hr1), by kernel_rfl, by kernel_rfl⟩) AllP.nil) ?_
  refine To.thenN ?_
  refine Wp.ret ?_
  refine To.keep (kk := [4]) (kl := [1000000]) (K' := [(4, .val (.bool (!r1.1)))]) (L' := [(1000000, 98, [.mapc none true (α := S_api_Kept) (S_api_Kept.mk [] []) E_api_Kept r1.2])]) (by kernel_rfl) (by kernel_rfl) ?_
  cases h
  exact To.doneB hΓ [1000000] (by kernel_rfl) (by kernel_rfl)
theorem good_E_string (l : List (List UInt8)) : GoodR (.recs [] E_string l) := ⟨Nat.le_of_ble_eq_true (by kernel_rfl), fun _ => ⟨rfl, rfl⟩⟩
def slices_Clone_string_string (n : Nat) (a0 : List (List UInt8)) : Option ((List (List UInt8))) :=
  if (decide ((List.length ([] : List (List UInt8)) + List.length a0) * (16 + 1) ≤ limit)) = true then (some (([] : List (List UInt8)) ++ a0)) else none
theorem ok_slices_Clone_string_string (n : Nat) (a0 : List (List UInt8)) (r : (List (List UInt8))) (h : slices_Clone_string_string n a0 = some r) : CallsX Try.prog 57 [.recs (α := List UInt8) [] E_string a0] (.recs (α := List UInt8) [] E_string r) := by
  unfold slices_Clone_string_string at h
  refine callsX_of (fn := Try.f57) (by kernel_rfl) rfl (by kernel_rfl) (Nat.le_of_ble_eq_true (by kernel_rfl)) fun F0 w0 _ => ?_
  refine Wp.keep (kk := [0]) (kl := []) (K' := [(0, .recs (α := List UInt8) [] E_string a0)]) (L' := []) (by kernel_rfl) (by kernel_rfl) ?_
  refine Wp.seq ?_
  refine Wp.region hΓ [] [] [] [0] [] (K' := [(0, .recs (α := List UInt8) [] E_string a0)]) (L' := []) (ob := []) (by kernel_rfl) AllP.nil ?_
  refine To.thenN ?_
  refine Wp.seq ?_
  refine Wp.seq ?_
  refine Wp.nilR (e := 9) (neg := false) (t0 := 0) (t3 := 3) (t4 := 4) (α := List UInt8) (d := []) (enc := E_string) (l := a0) Try.underlying27 rfl rfl rfl rfl rfl rfl ⟨Nat.le_of_ble_eq_true (by kernel_rfl), Nat.le_of_ble_eq_true (by kernel_rfl), by decide⟩ (by kernel_rfl) (fun hl => ?_) ?_
  · subst hl
    have h : (some []) = some r := by simpa using h
    refine To.thenN ?_
    refine Wp.cond (b := true) (by kernel_rfl) (fun _ => ?_) (fun hb => by cases hb)
    refine Wp.seq ?_
    refine Wp.region hΓ [] [] [] [2] [] (K' := [(2, .val (.slice none 0 0))]) (L' := []) (ob := []) (by kernel_rfl) AllP.nil ?_
    refine To.thenN ?_
    refine Wp.ret ?_
    refine To.thenR ?_
    refine To.keep (kk := [2]) (kl := []) (K' := [(2, .val (.slice none 0 0))]) (L' := []) (by kernel_rfl) (by kernel_rfl) ?_
    refine To.weak (K' := [(2, .recs (α := List UInt8) [] E_string [])]) (L' := []) (.cons (.zero _ _) .nil) .nil ?_
    cases h
    exact To.done hΓ (by kernel_rfl)
  · refine To.thenN ?_
    refine Wp.cond (b := false) (by kernel_rfl) (fun hb => by cases hb) (fun _ => ?_)
    refine Wp.skip ?_
    refine To.thenN ?_
    refine Wp.seq ?_
    obtain ⟨hc1, h⟩ := chk_of h
    refine Wp.region hΓ [] [(0, .recs (α := List UInt8) [] E_string []), (2, .recs (α := List UInt8) [] E_string (([] : List (List UInt8)) ++ a0))] [] [2] [7] (K' := [(2, .row 7)]) (L' := [(7, 9, [.rowc false (α := List UInt8) [] E_string (([] : List (List UInt8)) ++ a0)])]) (ob := [(MkOb 1 [] 0 (.recs (α := List UInt8) [] E_string []) ∧ GoodR (.recs (α := List UInt8) [] E_string [])), (decide ((List.length ([] : List (List UInt8)) + List.length a0) * (16 + 1) ≤ limit)) = true, (AppOb [] E_string ([] : List (List UInt8)) (List.flatMap E_string a0) (List.length a0) (.recs (α := List UInt8) [] E_string (([] : List (List UInt8)) ++ a0)) ∧ GoodR (.recs (α := List UInt8) [] E_string (([] : List (List UInt8)) ++ a0)))]) (by kernel_rfl) (AllP.cons (mkOb (by kernel_rfl) rfl (by kernel_rfl) (good_E_string _)) (AllP.cons hc1 (AllP.cons (appOb rfl rfl (good_E_string _)) AllP.nil))) ?_
    refine To.thenN ?_
    refine Wp.ret ?_
    refine To.keep (kk := [2]) (kl := [7]) (K' := [(2, .row 7)]) (L' := [(7, 9, [.rowc false (α := List UInt8) [] E_string (([] : List (List UInt8)) ++ a0)])]) (by kernel_rfl) (by kernel_rfl) ?_
    refine To.pre (St.settle (ks := [7]) (kk := [2]) (kl := [7]) (K' := [(2, .row 7)]) (L' := [(7, 9, [.rowc true (α := List UInt8) [] E_string (([] : List (List UInt8)) ++ a0)])]) (by kernel_rfl)) ?_
    refine To.pre (St.sealK [2] (K' := [(2, .recs (α := List UInt8) [] E_string (([] : List (List UInt8)) ++ a0))]) (by kernel_rfl)) ?_
    refine To.keep (kk := [2]) (kl := []) (K' := [(2, .recs (α := List UInt8) [] E_string (([] : List (List UInt8)) ++ a0))]) (L' := []) (by kernel_rfl) (by kernel_rfl) ?_
    cases h
    exact To.done hΓ (by kernel_rfl)
def life_New (a0 : Int) (a1 : S_api_Spec) : S_life_Box :=
  (S_life_Box.mk a1 a0 1 0 0 0 (-1) false false (S_probe_State.mk 0 0 0 0))
theorem ok_life_New (a0 : Int) (a1 : S_api_Spec) (r : S_life_Box) (h : life_New a0 a1 = r) : CallsX Try.prog 84 [.val (.int .i64 a0), .agg [.str a1.f_Name, .str a1.f_Project, .str a1.f_Service, .val (.int .i64 a1.f_Number), .str a1.f_Hash, .recs (α := List UInt8) [] E_string a1.f_Nets, .recs (α := List UInt8) [] E_string a1.f_Vols, .str a1.f_Health.f_Test, .val (.int .i64 a1.f_Health.f_Every), .val (.int .i64 a1.f_Health.f_Start), .val (.int .i64 a1.f_Health.f_Retries), .val (.int .i64 a1.f_Restart), .val (.int .i64 a1.f_Tries)]] (.agg [.str r.f_Spec.f_Name, .str r.f_Spec.f_Project, .str r.f_Spec.f_Service, .val (.int .i64 r.f_Spec.f_Number), .str r.f_Spec.f_Hash, .recs (α := List UInt8) [] E_string r.f_Spec.f_Nets, .recs (α := List UInt8) [] E_string r.f_Spec.f_Vols, .str r.f_Spec.f_Health.f_Test, .val (.int .i64 r.f_Spec.f_Health.f_Every), .val (.int .i64 r.f_Spec.f_Health.f_Start), .val (.int .i64 r.f_Spec.f_Health.f_Retries), .val (.int .i64 r.f_Spec.f_Restart), .val (.int .i64 r.f_Spec.f_Tries), .val (.int .i64 r.f_Id), .val (.int .i64 r.f_State), .val (.int .i64 r.f_Code), .val (.int .i64 r.f_Runs), .val (.int .i64 r.f_Done), .val (.int .i64 r.f_At), .val (.bool r.f_ByHand), .val (.bool r.f_Sick), .val (.int .i64 r.f_Probe.f_Health), .val (.int .i64 r.f_Probe.f_Fails), .val (.int .i64 r.f_Probe.f_Began), .val (.int .i64 r.f_Probe.f_Next)]) := by
  unfold life_New at h
  refine callsX_of (fn := Try.f84) (by kernel_rfl) rfl (by kernel_rfl) (Nat.le_of_ble_eq_true (by kernel_rfl)) fun F0 w0 _ => ?_
  refine Wp.keep (kk := [0, 1]) (kl := []) (K' := [(0, .val (.int .i64 a0)), (1, .agg (E_api_Spec a1))]) (L' := []) (by kernel_rfl) (by kernel_rfl) ?_
  refine Wp.seq ?_
  refine Wp.region hΓ [] [] [] [0, 3, 4] [3, 4] (K' := [(0, .val (.int .i64 a0)), (3, .own 3 0), (4, .own 4 0)]) (L' := [(3, 47, (E_api_Spec a1)), (4, 85, [.str [], .str [], .str [], .val (.int .i64 0), .str [], .val (.slice none 0 0), .val (.slice none 0 0), .str [], .val (.int .i64 0), .val (.int .i64 0), .val (.int .i64 0), .val (.int .i64 0), .val (.int .i64 0), .val (.int .i64 0), .val (.int .i64 0), .val (.int .i64 0), .val (.int .i64 0), .val (.int .i64 0), .val (.int .i64 0), .val (.bool false), .val (.bool false), .val (.int .i64 0), .val (.int .i64 0), .val (.int .i64 0), .val (.int .i64 0)])]) (ob := []) (by kernel_rfl) AllP.nil ?_
  refine To.thenN ?_
  refine Wp.seq ?_
  refine Wp.region hΓ [] [] [] [4] [4] (K' := [(4, .own 4 0)]) (L' := [(4, 85, [.str a1.f_Name, .str a1.f_Project, .str a1.f_Service, .val (.int .i64 a1.f_Number), .str a1.f_Hash, .recs (α := List UInt8) [] E_string a1.f_Nets, .recs (α := List UInt8) [] E_string a1.f_Vols, .str a1.f_Health.f_Test, .val (.int .i64 a1.f_Health.f_Every), .val (.int .i64 a1.f_Health.f_Start), .val (.int .i64 a1.f_Health.f_Retries), .val (.int .i64 a1.f_Restart), .val (.int .i64 a1.f_Tries), .val (.int .i64 a0), .val (.int .i64 1), .val (.int .i64 0), .val (.int .i64 0), .val (.int .i64 0), .val (.int .i64 (-1)), .val (.bool false), .val (.bool false), .val (.int .i64 0), .val (.int .i64 0), .val (.int .i64 0), .val (.int .i64 0)])]) (ob := []) (by kernel_rfl) AllP.nil ?_
  refine To.thenN ?_
  refine Wp.ret ?_
  refine To.keep (kk := [4]) (kl := [4]) (K' := [(4, .own 4 0)]) (L' := [(4, 85, [.str a1.f_Name, .str a1.f_Project, .str a1.f_Service, .val (.int .i64 a1.f_Number), .str a1.f_Hash, .recs (α := List UInt8) [] E_string a1.f_Nets, .recs (α := List UInt8) [] E_string a1.f_Vols, .str a1.f_Health.f_Test, .val (.int .i64 a1.f_Health.f_Every), .val (.int .i64 a1.f_Health.f_Start), .val (.int .i64 a1.f_Health.f_Retries), .val (.int .i64 a1.f_Restart), .val (.int .i64 a1.f_Tries), .val (.int .i64 a0), .val (.int .i64 1), .val (.int .i64 0), .val (.int .i64 0), .val (.int .i64 0), .val (.int .i64 (-1)), .val (.bool false), .val (.bool false), .val (.int .i64 0), .val (.int .i64 0), .val (.int .i64 0), .val (.int .i64 0)])]) (by kernel_rfl) (by kernel_rfl) ?_
  cases h
  exact To.done hΓ (by kernel_rfl)
def store_Store_make__o0_m1 (n : Nat) (b3 : S_api_Spec) (b1000000 : S_store_Store) (x : MK × S_life_Box) : Option (Sum (Unit) (Int × Int)) :=
  if (x.2.f_Spec.f_Name == b3.f_Name) = true then (some (.inr (0, 11)))
  else (some (.inl ()))
theorem ok_store_Store_make__o0_m1 (n : Nat) (b3 : S_api_Spec) (b1000000 : S_store_Store) (x : MK × S_life_Box) (o : Sum (Unit) (Int × Int)) (h : store_Store_make__o0_m1 n b3 b1000000 x = some o) {F0 : Fz} {w0 : Pt Try.prog} {Q : Exit → Act → World → Prop} {b0 clock0 r0 j : Nat} {seen : Array Nat} {es0 : Array MapEntry} {em : MapEntry} (hj : es0[j]? = some em) (hx : (b1000000.f_boxes)[j]? = some x) (hQ : (Sum.elim (fun s => To 91 F0 w0 [(0, .own 1000000 0), (3, .own 3 0), (21, .val (.pointer (some ⟨r0, 0, none⟩)))] [(3, 47, (E_api_Spec b3)), (21, 0, [iterD r0 b0 clock0 (seen.push em.born)]), (1000000, 100, [.mp 1010060, .mp 1010061, .mp 1010062, .val (.int .i64 b1000000.f_last)]), (1010060, 96, [lockD b0 es0 clock0 (some .i64) true (α := S_life_Box) E_life_Box b1000000.f_boxes]), (1010061, 98, [.mapc none true (α := S_api_Kept) (S_api_Kept.mk [] []) E_api_Kept b1000000.f_nets]), (1010062, 98, [.mapc none true (α := S_api_Kept) (S_api_Kept.mk [] []) E_api_Kept b1000000.f_vols])] .normal Q) (fun s => To 91 F0 w0 [(4, .val (.int .i64 s.1)), (5, .val (.int .i64 s.2))] [(21, 0, [iterD r0 b0 clock0 (seen.push em.born)]), (1000000, 100, [.mp 1010060, .mp 1010061, .mp 1010062, .val (.int .i64 b1000000.f_last)]), (1010060, 96, [lockD b0 es0 clock0 (some .i64) true (α := S_life_Box) E_life_Box b1000000.f_boxes]), (1010061, 98, [.mapc none true (α := S_api_Kept) (S_api_Kept.mk [] []) E_api_Kept b1000000.f_nets]), (1010062, 98, [.mapc none true (α := S_api_Kept) (S_api_Kept.mk [] []) E_api_Kept b1000000.f_vols])] .ret Q)) o) : Wp Try.prog 91 F0 w0 [(0, .own 1000000 0), (3, .own 3 0), (21, .val (.pointer (some ⟨r0, 0, none⟩)))] [(3, 47, (E_api_Spec b3)), (21, 0, [iterD r0 b0 clock0 (seen.push em.born)]), (1000000, 100, [.mp 1010060, .mp 1010061, .mp 1010062, .val (.int .i64 b1000000.f_last)]), (1010060, 96, [lockD b0 es0 clock0 (some .i64) true (α := S_life_Box) E_life_Box b1000000.f_boxes]), (1010061, 98, [.mapc none true (α := S_api_Kept) (S_api_Kept.mk [] []) E_api_Kept b1000000.f_nets]), (1010062, 98, [.mapc none true (α := S_api_Kept) (S_api_Kept.mk [] []) E_api_Kept b1000000.f_vols])] (cB (cB (cI (cI (cB (cA (cB (cB (cF Try.f63))))))))) Q := by
  unfold store_Store_make__o0_m1 at h
  refine Wp.block ?_
  refine Wp.seq ?_
  refine Wp.rangeEntry hΓ (u := 21) (te := 24) (k := 1010060) (ki := 21) (tt := 96) (t2 := 0) (r := r0) (b := b0) (clock := clock0) (seen := seen) (es := es0) (em := em) (kd := (some .i64)) (ag := true) (enc := E_life_Box) (m := b1000000.f_boxes) (x := x) (dv := .agg [.str x.2.f_Spec.f_Name, .str x.2.f_Spec.f_Project, .str x.2.f_Spec.f_Service, .val (.int .i64 x.2.f_Spec.f_Number), .str x.2.f_Spec.f_Hash, .recs (α := List UInt8) [] E_string x.2.f_Spec.f_Nets, .recs (α := List UInt8) [] E_string x.2.f_Spec.f_Vols, .str x.2.f_Spec.f_Health.f_Test, .val (.int .i64 x.2.f_Spec.f_Health.f_Every), .val (.int .i64 x.2.f_Spec.f_Health.f_Start), .val (.int .i64 x.2.f_Spec.f_Health.f_Retries), .val (.int .i64 x.2.f_Spec.f_Restart), .val (.int .i64 x.2.f_Spec.f_Tries), .val (.int .i64 x.2.f_Id), .val (.int .i64 x.2.f_State), .val (.int .i64 x.2.f_Code), .val (.int .i64 x.2.f_Runs), .val (.int .i64 x.2.f_Done), .val (.int .i64 x.2.f_At), .val (.bool x.2.f_ByHand), .val (.bool x.2.f_Sick), .val (.int .i64 x.2.f_Probe.f_Health), .val (.int .i64 x.2.f_Probe.f_Fails), .val (.int .i64 x.2.f_Probe.f_Began), .val (.int .i64 x.2.f_Probe.f_Next)]) [] [] [] [0, 3, 7, 21] [3, 7, 21, 1000000, 1010060, 1010061, 1010062] hj hx rfl rfl rfl (Nat.le_of_ble_eq_true (by kernel_rfl)) (by kernel_rfl) (by kernel_rfl) (by kernel_rfl) (by kernel_rfl) (by kernel_rfl) (K' := [(0, .own 1000000 0), (3, .own 3 0), (7, .own 7 0), (21, .val (.pointer (some ⟨r0, 0, none⟩)))]) (L' := [(3, 47, (E_api_Spec b3)), (7, 85, (E_life_Box x.2)), (21, 0, [iterD r0 b0 clock0 (seen.push em.born)]), (1000000, 100, [.mp 1010060, .mp 1010061, .mp 1010062, .val (.int .i64 b1000000.f_last)]), (1010060, 96, [lockD b0 es0 clock0 (some .i64) true (α := S_life_Box) E_life_Box b1000000.f_boxes]), (1010061, 98, [.mapc none true (α := S_api_Kept) (S_api_Kept.mk [] []) E_api_Kept b1000000.f_nets]), (1010062, 98, [.mapc none true (α := S_api_Kept) (S_api_Kept.mk [] []) E_api_Kept b1000000.f_vols])]) (ob := []) (by kernel_rfl) AllP.nil ?_
  refine To.thenN ?_
  refine Wp.seq ?_
  refine Wp.region hΓ [] [] [] [0, 3, 21, 31] [3, 21, 1000000, 1010060, 1010061, 1010062] (K' := [(0, .own 1000000 0), (3, .own 3 0), (21, .val (.pointer (some ⟨r0, 0, none⟩))), (31, .val (.bool (x.2.f_Spec.f_Name == b3.f_Name)))]) (L' := [(3, 47, (E_api_Spec b3)), (21, 0, [iterD r0 b0 clock0 (seen.push em.born)]), (1000000, 100, [.mp 1010060, .mp 1010061, .mp 1010062, .val (.int .i64 b1000000.f_last)]), (1010060, 96, [lockD b0 es0 clock0 (some .i64) true (α := S_life_Box) E_life_Box b1000000.f_boxes]), (1010061, 98, [.mapc none true (α := S_api_Kept) (S_api_Kept.mk [] []) E_api_Kept b1000000.f_nets]), (1010062, 98, [.mapc none true (α := S_api_Kept) (S_api_Kept.mk [] []) E_api_Kept b1000000.f_vols])]) (ob := []) (by kernel_rfl) AllP.nil ?_
  refine To.thenN ?_
  refine Wp.cond (b := (x.2.f_Spec.f_Name == b3.f_Name)) (by kernel_rfl) (fun hb => ?_) (fun hb => ?_)
  · replace h := if_t hb h
    refine Wp.seq ?_
    refine Wp.region hΓ [] [] [] [4, 5] [21, 1000000, 1010060, 1010061, 1010062] (K' := [(4, .val (.int .i64 0)), (5, .val (.int .i64 11))]) (L' := [(21, 0, [iterD r0 b0 clock0 (seen.push em.born)]), (1000000, 100, [.mp 1010060, .mp 1010061, .mp 1010062, .val (.int .i64 b1000000.f_last)]), (1010060, 96, [lockD b0 es0 clock0 (some .i64) true (α := S_life_Box) E_life_Box b1000000.f_boxes]), (1010061, 98, [.mapc none true (α := S_api_Kept) (S_api_Kept.mk [] []) E_api_Kept b1000000.f_nets]), (1010062, 98, [.mapc none true (α := S_api_Kept) (S_api_Kept.mk [] []) E_api_Kept b1000000.f_vols])]) (ob := []) (by kernel_rfl) AllP.nil ?_
    refine To.thenN ?_
    refine Wp.ret ?_
    refine To.blockR ?_
    refine To.keep (kk := [4, 5]) (kl := [21, 1000000, 1010060, 1010061, 1010062]) (K' := [(4, .val (.int .i64 0)), (5, .val (.int .i64 11))]) (L' := [(21, 0, [iterD r0 b0 clock0 (seen.push em.born)]), (1000000, 100, [.mp 1010060, .mp 1010061, .mp 1010062, .val (.int .i64 b1000000.f_last)]), (1010060, 96, [lockD b0 es0 clock0 (some .i64) true (α := S_life_Box) E_life_Box b1000000.f_boxes]), (1010061, 98, [.mapc none true (α := S_api_Kept) (S_api_Kept.mk [] []) E_api_Kept b1000000.f_nets]), (1010062, 98, [.mapc none true (α := S_api_Kept) (S_api_Kept.mk [] []) E_api_Kept b1000000.f_vols])]) (by kernel_rfl) (by kernel_rfl) ?_
    cases h
    exact hQ
  · replace h := if_f hb h
    refine Wp.skip ?_
    refine To.blockN ?_
    refine To.keep (kk := [0, 3, 21]) (kl := [3, 21, 1000000, 1010060, 1010061, 1010062]) (K' := [(0, .own 1000000 0), (3, .own 3 0), (21, .val (.pointer (some ⟨r0, 0, none⟩)))]) (L' := [(3, 47, (E_api_Spec b3)), (21, 0, [iterD r0 b0 clock0 (seen.push em.born)]), (1000000, 100, [.mp 1010060, .mp 1010061, .mp 1010062, .val (.int .i64 b1000000.f_last)]), (1010060, 96, [lockD b0 es0 clock0 (some .i64) true (α := S_life_Box) E_life_Box b1000000.f_boxes]), (1010061, 98, [.mapc none true (α := S_api_Kept) (S_api_Kept.mk [] []) E_api_Kept b1000000.f_nets]), (1010062, 98, [.mapc none true (α := S_api_Kept) (S_api_Kept.mk [] []) E_api_Kept b1000000.f_vols])]) (by kernel_rfl) (by kernel_rfl) ?_
    cases h
    exact hQ
def store_Store_make__o0 (n : Nat) (a1 : S_api_Spec) (h0 : S_store_Store) : Option (Int × Int × S_store_Store) :=
  if (bif (a1.f_Name == []) then true else (decide ((List.length a1.f_Name : Int) > 128))) = true then (some (0, 2, h0))
  else ((roundAll (store_Store_make__o0_m1 n a1 h0) h0.f_boxes).bind fun o2 =>
  Sum.elim (fun _ => (store_shelf_has__m0 n a1.f_Nets h0.f_nets).bind fun r3 =>
  ((if ((!r3.1) == false) = true then store_shelf_has__m0 n a1.f_Vols h0.f_vols else some (false, h0.f_vols))).bind fun r4 =>
  if (bif (!r3.1) then true else (!r4.1)) = true then (some (0, 12, (S_store_Store.mk h0.f_boxes r3.2 r4.2 h0.f_last)))
  else (if (decide ((List.length h0.f_boxes : Int) ≥ 64)) = true then (some (0, 14, (S_store_Store.mk h0.f_boxes r3.2 r4.2 h0.f_last)))
  else ((slices_Clone_string_string n a1.f_Nets).bind fun r5 =>
  (slices_Clone_string_string n a1.f_Vols).bind fun r6 =>
  lett (life_New (IntKind.wrap .i64 (h0.f_last + 1)) (S_api_Spec.mk a1.f_Name a1.f_Project a1.f_Service a1.f_Number a1.f_Hash r5 r6 a1.f_Health a1.f_Restart a1.f_Tries)) fun r7 =>
  some ((IntKind.wrap .i64 (h0.f_last + 1)), 0, (S_store_Store.mk (mput h0.f_boxes (.inr (IntKind.wrap .i64 (h0.f_last + 1))) r7) r3.2 r4.2 (IntKind.wrap .i64 (h0.f_last + 1))))))) (fun y => some (y.1, y.2, h0)) o2)
theorem ok_store_Store_make__o0 (n : Nat) (a1 : S_api_Spec) (h0 : S_store_Store) (r : Int × Int × S_store_Store) (h : store_Store_make__o0 n a1 h0 = some r) : CallsB Try.prog 63 [.own 1000000 0, .agg [.str a1.f_Name, .str a1.f_Project, .str a1.f_Service, .val (.int .i64 a1.f_Number), .str a1.f_Hash, .recs (α := List UInt8) [] E_string a1.f_Nets, .recs (α := List UInt8) [] E_string a1.f_Vols, .str a1.f_Health.f_Test, .val (.int .i64 a1.f_Health.f_Every), .val (.int .i64 a1.f_Health.f_Start), .val (.int .i64 a1.f_Health.f_Retries), .val (.int .i64 a1.f_Restart), .val (.int .i64 a1.f_Tries)]] [(1000000, 100, [.mp 1010060, .mp 1010061, .mp 1010062, .val (.int .i64 h0.f_last)]), (1010060, 96, [.mapc (some .i64) true (α := S_life_Box) Z_life_Box E_life_Box h0.f_boxes]), (1010061, 98, [.mapc none true (α := S_api_Kept) (S_api_Kept.mk [] []) E_api_Kept h0.f_nets]), (1010062, 98, [.mapc none true (α := S_api_Kept) (S_api_Kept.mk [] []) E_api_Kept h0.f_vols])] (.tup [.val (.int .i64 r.1), .val (.int .i64 r.2.1)]) [(1000000, 100, [.mp 1010060, .mp 1010061, .mp 1010062, .val (.int .i64 r.2.2.f_last)]), (1010060, 96, [.mapc (some .i64) true (α := S_life_Box) Z_life_Box E_life_Box r.2.2.f_boxes]), (1010061, 98, [.mapc none true (α := S_api_Kept) (S_api_Kept.mk [] []) E_api_Kept r.2.2.f_nets]), (1010062, 98, [.mapc none true (α := S_api_Kept) (S_api_Kept.mk [] []) E_api_Kept r.2.2.f_vols])] := by
  unfold store_Store_make__o0 at h
  refine callsB_of (fn := Try.f63) (by kernel_rfl) rfl (by kernel_rfl) (Nat.le_of_ble_eq_true (by kernel_rfl)) fun F0 w0 => ?_
  refine Wp.keep (kk := [0, 1]) (kl := [1000000, 1010060, 1010061, 1010062]) (K' := [(0, .own 1000000 0), (1, .agg (E_api_Spec a1))]) (L' := [(1000000, 100, [.mp 1010060, .mp 1010061, .mp 1010062, .val (.int .i64 h0.f_last)]), (1010060, 96, [.mapc (some .i64) true (α := S_life_Box) Z_life_Box E_life_Box h0.f_boxes]), (1010061, 98, [.mapc none true (α := S_api_Kept) (S_api_Kept.mk [] []) E_api_Kept h0.f_nets]), (1010062, 98, [.mapc none true (α := S_api_Kept) (S_api_Kept.mk [] []) E_api_Kept h0.f_vols])]) (by kernel_rfl) (by kernel_rfl) ?_
  refine Wp.seq ?_
  refine Wp.region hΓ [] [] [] [0, 3] [3, 1000000, 1010060, 1010061, 1010062] (K' := [(0, .own 1000000 0), (3, .own 3 0)]) (L' := [(3, 47, (E_api_Spec a1)), (1000000, 100, [.mp 1010060, .mp 1010061, .mp 1010062, .val (.int .i64 h0.f_last)]), (1010060, 96, [.mapc (some .i64) true (α := S_life_Box) Z_life_Box E_life_Box h0.f_boxes]), (1010061, 98, [.mapc none true (α := S_api_Kept) (S_api_Kept.mk [] []) E_api_Kept h0.f_nets]), (1010062, 98, [.mapc none true (α := S_api_Kept) (S_api_Kept.mk [] []) E_api_Kept h0.f_vols])]) (ob := []) (by kernel_rfl) AllP.nil ?_
  refine To.thenN ?_
  refine Wp.seq ?_
  refine Wp.seq ?_
  refine Wp.region hΓ [] [] [] [0, 3, 16] [3, 1000000, 1010060, 1010061, 1010062] (K' := [(0, .own 1000000 0), (3, .own 3 0), (16, .val (.bool (bif (a1.f_Name == []) then true else (decide ((List.length a1.f_Name : Int) > 128)))))]) (L' := [(3, 47, (E_api_Spec a1)), (1000000, 100, [.mp 1010060, .mp 1010061, .mp 1010062, .val (.int .i64 h0.f_last)]), (1010060, 96, [.mapc (some .i64) true (α := S_life_Box) Z_life_Box E_life_Box h0.f_boxes]), (1010061, 98, [.mapc none true (α := S_api_Kept) (S_api_Kept.mk [] []) E_api_Kept h0.f_nets]), (1010062, 98, [.mapc none true (α := S_api_Kept) (S_api_Kept.mk [] []) E_api_Kept h0.f_vols])]) (ob := []) (by kernel_rfl) AllP.nil ?_
  refine To.thenN ?_
  refine Wp.cond (b := (bif (a1.f_Name == []) then true else (decide ((List.length a1.f_Name : Int) > 128)))) (by kernel_rfl) (fun hb => ?_) (fun hb => ?_)
  · replace h := if_t hb h
    refine Wp.seq ?_
    refine Wp.region hΓ [] [] [] [4, 5] [1000000, 1010060, 1010061, 1010062] (K' := [(4, .val (.int .i64 0)), (5, .val (.int .i64 2))]) (L' := [(1000000, 100, [.mp 1010060, .mp 1010061, .mp 1010062, .val (.int .i64 h0.f_last)]), (1010060, 96, [.mapc (some .i64) true (α := S_life_Box) Z_life_Box E_life_Box h0.f_boxes]), (1010061, 98, [.mapc none true (α := S_api_Kept) (S_api_Kept.mk [] []) E_api_Kept h0.f_nets]), (1010062, 98, [.mapc none true (α := S_api_Kept) (S_api_Kept.mk [] []) E_api_Kept h0.f_vols])]) (ob := []) (by kernel_rfl) AllP.nil ?_
    refine To.thenN ?_
    refine Wp.ret ?_
    refine To.thenR ?_
    refine To.keep (kk := [4, 5]) (kl := [1000000, 1010060, 1010061, 1010062]) (K' := [(4, .val (.int .i64 0)), (5, .val (.int .i64 2))]) (L' := [(1000000, 100, [.mp 1010060, .mp 1010061, .mp 1010062, .val (.int .i64 h0.f_last)]), (1010060, 96, [.mapc (some .i64) true (α := S_life_Box) Z_life_Box E_life_Box h0.f_boxes]), (1010061, 98, [.mapc none true (α := S_api_Kept) (S_api_Kept.mk [] []) E_api_Kept h0.f_nets]), (1010062, 98, [.mapc none true (α := S_api_Kept) (S_api_Kept.mk [] []) E_api_Kept h0.f_vols])]) (by kernel_rfl) (by kernel_rfl) ?_
    cases h
    exact To.doneB hΓ [1000000, 1010060, 1010061, 1010062] (by kernel_rfl) (by kernel_rfl)
  · replace h := if_f hb h
    refine Wp.skip ?_
    refine To.thenN ?_
    refine Wp.seq ?_
    refine Wp.seq ?_
    refine Wp.rangeStart hΓ (t := 96) (s := 20) (u := 21) (k := 1010060) (ki := 21) (tt := 96) [] [] [] [0, 3, 20] [3, 1000000, 1010060, 1010061, 1010062] (K' := [(0, .own 1000000 0), (3, .own 3 0), (20, .mp 1010060)]) (L' := [(3, 47, (E_api_Spec a1)), (1000000, 100, [.mp 1010060, .mp 1010061, .mp 1010062, .val (.int .i64 h0.f_last)]), (1010060, 96, [.mapc (some .i64) true (α := S_life_Box) Z_life_Box E_life_Box h0.f_boxes]), (1010061, 98, [.mapc none true (α := S_api_Kept) (S_api_Kept.mk [] []) E_api_Kept h0.f_nets]), (1010062, 98, [.mapc none true (α := S_api_Kept) (S_api_Kept.mk [] []) E_api_Kept h0.f_vols])]) (ob := []) (by kernel_rfl) (Nat.le_of_ble_eq_true (by kernel_rfl)) (by kernel_rfl) AllP.nil (kd := (some .i64)) (sz := 25) (ag := true) (by kernel_rfl) (α := S_life_Box) (d := Z_life_Box) (enc := E_life_Box) (m := h0.f_boxes) (by kernel_rfl) (by kernel_rfl) (Nat.le_of_ble_eq_true (by kernel_rfl)) (by kernel_rfl) (by kernel_rfl) ?_
    intro b1 es1 clock1 r01
    refine To.keep (kk := [0, 3, 21]) (kl := [3, 21, 1000000, 1010060, 1010061, 1010062]) (K' := [(0, .own 1000000 0), (3, .own 3 0), (21, .val (.pointer (some ⟨r01, 0, none⟩)))]) (L' := [(3, 47, (E_api_Spec a1)), (21, 0, [iterD r01 b1 clock1 #[]]), (1000000, 100, [.mp 1010060, .mp 1010061, .mp 1010062, .val (.int .i64 h0.f_last)]), (1010060, 96, [lockD b1 es1 clock1 (some .i64) true (α := S_life_Box) E_life_Box h0.f_boxes]), (1010061, 98, [.mapc none true (α := S_api_Kept) (S_api_Kept.mk [] []) E_api_Kept h0.f_nets]), (1010062, 98, [.mapc none true (α := S_api_Kept) (S_api_Kept.mk [] []) E_api_Kept h0.f_vols])]) (by kernel_rfl) (by kernel_rfl) ?_
    refine To.thenN ?_
    refine Wp.block ?_
    obtain ⟨o2, ho2, h⟩ := bind_of h
    refine Wp.keep (kk := [0, 3, 21]) (kl := [3, 21, 1000000, 1010060, 1010061, 1010062]) (K' := [(0, .own 1000000 0), (3, .own 3 0), (21, .val (.pointer (some ⟨r01, 0, none⟩)))]) (L' := [(3, 47, (E_api_Spec a1)), (21, 0, [iterD r01 b1 clock1 #[]]), (1000000, 100, [.mp 1010060, .mp 1010061, .mp 1010062, .val (.int .i64 h0.f_last)]), (1010060, 96, [lockD b1 es1 clock1 (some .i64) true (α := S_life_Box) E_life_Box h0.f_boxes]), (1010061, 98, [.mapc none true (α := S_api_Kept) (S_api_Kept.mk [] []) E_api_Kept h0.f_nets]), (1010062, 98, [.mapc none true (α := S_api_Kept) (S_api_Kept.mk [] []) E_api_Kept h0.f_vols])]) (by kernel_rfl) (by kernel_rfl) ?_
    refine Wp.loopL ?_
    refine WL.mapRangeL (u := 21) (tn := 22) (tk := 23) (ki := 21) (t2 := 0) (k := 1010060) (tt := 96) (b := b1) (clock := clock1) (r := r01) (es := es1) (kd := (some .i64)) (ag := true) (α := S_life_Box) (enc := E_life_Box) (m := h0.f_boxes) (Lr := [(3, 47, (E_api_Spec a1)), (1000000, 100, [.mp 1010060, .mp 1010061, .mp 1010062, .val (.int .i64 h0.f_last)]), (1010061, 98, [.mapc none true (α := S_api_Kept) (S_api_Kept.mk [] []) E_api_Kept h0.f_nets]), (1010062, 98, [.mapc none true (α := S_api_Kept) (S_api_Kept.mk [] []) E_api_Kept h0.f_vols])]) (fun seen => [(3, 47, (E_api_Spec a1)), (21, 0, [iterD r01 b1 clock1 seen]), (1000000, 100, [.mp 1010060, .mp 1010061, .mp 1010062, .val (.int .i64 h0.f_last)]), (1010060, 96, [lockD b1 es1 clock1 (some .i64) true (α := S_life_Box) E_life_Box h0.f_boxes]), (1010061, 98, [.mapc none true (α := S_api_Kept) (S_api_Kept.mk [] []) E_api_Kept h0.f_nets]), (1010062, 98, [.mapc none true (α := S_api_Kept) (S_api_Kept.mk [] []) E_api_Kept h0.f_vols])]) (store_Store_make__o0_m1 n a1 h0) o2 (fun seen y Q' => To 91 F0 w0 [(4, .val (.int .i64 y.1)), (5, .val (.int .i64 y.2))] [(21, 0, [iterD r01 b1 clock1 seen]), (1000000, 100, [.mp 1010060, .mp 1010061, .mp 1010062, .val (.int .i64 h0.f_last)]), (1010060, 96, [lockD b1 es1 clock1 (some .i64) true (α := S_life_Box) E_life_Box h0.f_boxes]), (1010061, 98, [.mapc none true (α := S_api_Kept) (S_api_Kept.mk [] []) E_api_Kept h0.f_nets]), (1010062, 98, [.mapc none true (α := S_api_Kept) (S_api_Kept.mk [] []) E_api_Kept h0.f_vols])] .ret Q') [21, 1010060, 3, 1000000, 1010061, 1010062] [3, 21, 1000000, 1010060, 1010061, 1010062] (fun seen => by kernel_rfl) (fun seen => by kernel_rfl) ⟨_, rfl, rfl⟩ rfl rfl rfl rfl rfl ⟨Nat.le_of_ble_eq_true (by kernel_rfl), Nat.le_of_ble_eq_true (by kernel_rfl)⟩ (by kernel_rfl) (by kernel_rfl) (by decide) (by kernel_rfl) ho2 (fun seen em j x s hj hx hs Q' hQ => ok_store_Store_make__o0_m1 n a1 h0 x s hs hj hx hQ) (fun he seen => ?_) (fun seen y he => ?_)
    · cases he
      replace h := sum_l h
      refine To.pre (St.unlock (t := 96) (b := b1) (es := es1) (clock := clock1) (kk := (some .i64)) (ag := true) (α := S_life_Box) (enc := E_life_Box) (l := h0.f_boxes) 1010060 Z_life_Box (by kernel_rfl) (L' := [(1010060, 96, [.mapc (some .i64) true (α := S_life_Box) Z_life_Box E_life_Box h0.f_boxes]), (3, 47, (E_api_Spec a1)), (21, 0, [iterD r01 b1 clock1 seen]), (1000000, 100, [.mp 1010060, .mp 1010061, .mp 1010062, .val (.int .i64 h0.f_last)]), (1010061, 98, [.mapc none true (α := S_api_Kept) (S_api_Kept.mk [] []) E_api_Kept h0.f_nets]), (1010062, 98, [.mapc none true (α := S_api_Kept) (S_api_Kept.mk [] []) E_api_Kept h0.f_vols])]) (by kernel_rfl)) ?_
      refine To.keep (kk := [0, 3]) (kl := [3, 1000000, 1010060, 1010061, 1010062]) (K' := [(0, .own 1000000 0), (3, .own 3 0)]) (L' := [(3, 47, (E_api_Spec a1)), (1000000, 100, [.mp 1010060, .mp 1010061, .mp 1010062, .val (.int .i64 h0.f_last)]), (1010060, 96, [.mapc (some .i64) true (α := S_life_Box) Z_life_Box E_life_Box h0.f_boxes]), (1010061, 98, [.mapc none true (α := S_api_Kept) (S_api_Kept.mk [] []) E_api_Kept h0.f_nets]), (1010062, 98, [.mapc none true (α := S_api_Kept) (S_api_Kept.mk [] []) E_api_Kept h0.f_vols])]) (by kernel_rfl) (by kernel_rfl) ?_
      refine To.blockX ?_
      refine To.thenN ?_
      refine Wp.seq ?_
      refine Wp.block ?_
      refine Wp.seq ?_
      obtain ⟨r3, hr3, h⟩ := bind_of h
      obtain ⟨r4, hr4, h⟩ := bind_of h
      refine Wp.regionO hm hΓ [] [] [(6, ⟨[(1000000, 1010061)], [(1000000, 1010061)], [.mp 1000000, .recs (α := List UInt8) [] E_string a1.f_Nets], [(1000000, 98, [.mapc none true (α := S_api_Kept) (S_api_Kept.mk [] []) E_api_Kept h0.f_nets])], .val (.bool r3.1), [(1000000, 98, [.mapc none true (α := S_api_Kept) (S_api_Kept.mk [] []) E_api_Kept r3.2])]⟩), (15, ⟨[(1000000, 1010062)], [(1000000, 1010062)], [.mp 1000000, .recs (α := List UInt8) [] E_string a1.f_Vols], [(1000000, 98, [.mapc none true (α := S_api_Kept) (S_api_Kept.mk [] []) E_api_Kept h0.f_vols])], .val (.bool r4.1), [(1000000, 98, [.mapc none true (α := S_api_Kept) (S_api_Kept.mk [] []) E_api_Kept r4.2])]⟩)] [0, 3, 32, 33, 34, 35, 36, 37, 38, 39, 40, 41, 42, 43, 44, 45, 46, 47, 48, 49, 50] [3, 1000000, 1010060, 1010061, 1010062] [0, 3, 32] [3, 1000000, 1010060, 1010061, 1010062] (K' := [(0, .own 1000000 0), (3, .own 3 0), (32, .val (.bool (bif (!r3.1) then true else (!r4.1))))]) (L' := [(3, 47, (E_api_Spec a1)), (1000000, 100, [.mp 1010060, .mp 1010061, .mp 1010062, .val (.int .i64 h0.f_last)]), (1010060, 96, [.mapc (some .i64) true (α := S_life_Box) Z_life_Box E_life_Box h0.f_boxes]), (1010061, 98, [.mapc none true (α := S_api_Kept) (S_api_Kept.mk [] []) E_api_Kept r3.2]), (1010062, 98, [.mapc none true (α := S_api_Kept) (S_api_Kept.mk [] []) E_api_Kept r4.2])]) (ob := [CbOb (CallsB Try.prog) 83 [.mp 1010061, .recs (α := List UInt8) [] E_string a1.f_Nets] [some (98, [.mapc none true (α := S_api_Kept) (S_api_Kept.mk [] []) E_api_Kept h0.f_nets])] ⟨[(1000000, 1010061)], [(1000000, 1010061)], [.mp 1000000, .recs (α := List UInt8) [] E_string a1.f_Nets], [(1000000, 98, [.mapc none true (α := S_api_Kept) (S_api_Kept.mk [] []) E_api_Kept h0.f_nets])], .val (.bool r3.1), [(1000000, 98, [.mapc none true (α := S_api_Kept) (S_api_Kept.mk [] []) E_api_Kept r3.2])]⟩, (((!r3.1) == false) = true → CbOb (CallsB Try.prog) 83 [.mp 1010062, .recs (α := List UInt8) [] E_string a1.f_Vols] [some (98, [.mapc none true (α := S_api_Kept) (S_api_Kept.mk [] []) E_api_Kept h0.f_vols])] ⟨[(1000000, 1010062)], [(1000000, 1010062)], [.mp 1000000, .recs (α := List UInt8) [] E_string a1.f_Vols], [(1000000, 98, [.mapc none true (α := S_api_Kept) (S_api_Kept.mk [] []) E_api_Kept h0.f_vols])], .val (.bool r4.1), [(1000000, 98, [.mapc none true (α := S_api_Kept) (S_api_Kept.mk [] []) E_api_Kept r4.2])]⟩), (((!r3.1) == false) = false → KeepOb [(1010062, 98, [.mapc none true (α := S_api_Kept) (S_api_Kept.mk [] []) E_api_Kept h0.f_vols])] ⟨[(1000000, 1010062)], [(1000000, 1010062)], [.mp 1000000, .recs (α := List UInt8) [] E_string a1.f_Vols], [(1000000, 98, [.mapc none true (α := S_api_Kept) (S_api_Kept.mk [] []) E_api_Kept h0.f_vols])], .val (.bool r4.1), [(1000000, 98, [.mapc none true (α := S_api_Kept) (S_api_Kept.mk [] []) E_api_Kept r4.2])]⟩)]) (by kernel_rfl) (by kernel_rfl) (AllP.cons (⟨(ok_store_shelf_has__m0 n a1.f_Nets h0.f_nets _ hr3), by kernel_rfl, by kernel_rfl⟩) (AllP.cons (fun hg => ⟨(ok_store_shelf_has__m0 n a1.f_Vols h0.f_vols _ (if_t hg hr4)), by kernel_rfl, by kernel_rfl⟩) (AllP.cons (fun hg => by cases if_f hg hr4; exact keepOb (by kernel_rfl)) AllP.nil))) ?_
      refine To.thenN ?_
      refine Wp.cond (b := (bif (!r3.1) then true else (!r4.1))) (by kernel_rfl) (fun hb => ?_) (fun hb => ?_)
      · replace h := if_t hb h
        refine Wp.seq ?_
        refine Wp.region hΓ [] [] [] [4, 5] [1000000, 1010060, 1010061, 1010062] (K' := [(4, .val (.int .i64 0)), (5, .val (.int .i64 12))]) (L' := [(1000000, 100, [.mp 1010060, .mp 1010061, .mp 1010062, .val (.int .i64 h0.f_last)]), (1010060, 96, [.mapc (some .i64) true (α := S_life_Box) Z_life_Box E_life_Box h0.f_boxes]), (1010061, 98, [.mapc none true (α := S_api_Kept) (S_api_Kept.mk [] []) E_api_Kept r3.2]), (1010062, 98, [.mapc none true (α := S_api_Kept) (S_api_Kept.mk [] []) E_api_Kept r4.2])]) (ob := []) (by kernel_rfl) AllP.nil ?_
        refine To.thenN ?_
        refine Wp.ret ?_
        refine To.blockR ?_
        refine To.thenR ?_
        refine To.keep (kk := [4, 5]) (kl := [1000000, 1010060, 1010061, 1010062]) (K' := [(4, .val (.int .i64 0)), (5, .val (.int .i64 12))]) (L' := [(1000000, 100, [.mp 1010060, .mp 1010061, .mp 1010062, .val (.int .i64 h0.f_last)]), (1010060, 96, [.mapc (some .i64) true (α := S_life_Box) Z_life_Box E_life_Box h0.f_boxes]), (1010061, 98, [.mapc none true (α := S_api_Kept) (S_api_Kept.mk [] []) E_api_Kept r3.2]), (1010062, 98, [.mapc none true (α := S_api_Kept) (S_api_Kept.mk [] []) E_api_Kept r4.2])]) (by kernel_rfl) (by kernel_rfl) ?_
        cases h
        exact To.doneB hΓ [1000000, 1010060, 1010061, 1010062] (by kernel_rfl) (by kernel_rfl)
      · replace h := if_f hb h
        refine Wp.seq ?_
        refine Wp.region hΓ [] [] [] [0, 3, 51] [3, 1000000, 1010060, 1010061, 1010062] (K' := [(0, .own 1000000 0), (3, .own 3 0), (51, .val (.bool (decide ((List.length h0.f_boxes : Int) ≥ 64))))]) (L' := [(3, 47, (E_api_Spec a1)), (1000000, 100, [.mp 1010060, .mp 1010061, .mp 1010062, .val (.int .i64 h0.f_last)]), (1010060, 96, [.mapc (some .i64) true (α := S_life_Box) Z_life_Box E_life_Box h0.f_boxes]), (1010061, 98, [.mapc none true (α := S_api_Kept) (S_api_Kept.mk [] []) E_api_Kept r3.2]), (1010062, 98, [.mapc none true (α := S_api_Kept) (S_api_Kept.mk [] []) E_api_Kept r4.2])]) (ob := []) (by kernel_rfl) AllP.nil ?_
        refine To.thenN ?_
        refine Wp.cond (b := (decide ((List.length h0.f_boxes : Int) ≥ 64))) (by kernel_rfl) (fun hb => ?_) (fun hb => ?_)
        · replace h := if_t hb h
          refine Wp.seq ?_
          refine Wp.region hΓ [] [] [] [4, 5] [1000000, 1010060, 1010061, 1010062] (K' := [(4, .val (.int .i64 0)), (5, .val (.int .i64 14))]) (L' := [(1000000, 100, [.mp 1010060, .mp 1010061, .mp 1010062, .val (.int .i64 h0.f_last)]), (1010060, 96, [.mapc (some .i64) true (α := S_life_Box) Z_life_Box E_life_Box h0.f_boxes]), (1010061, 98, [.mapc none true (α := S_api_Kept) (S_api_Kept.mk [] []) E_api_Kept r3.2]), (1010062, 98, [.mapc none true (α := S_api_Kept) (S_api_Kept.mk [] []) E_api_Kept r4.2])]) (ob := []) (by kernel_rfl) AllP.nil ?_
          refine To.thenN ?_
          refine Wp.ret ?_
          refine To.blockR ?_
          refine To.thenR ?_
          refine To.keep (kk := [4, 5]) (kl := [1000000, 1010060, 1010061, 1010062]) (K' := [(4, .val (.int .i64 0)), (5, .val (.int .i64 14))]) (L' := [(1000000, 100, [.mp 1010060, .mp 1010061, .mp 1010062, .val (.int .i64 h0.f_last)]), (1010060, 96, [.mapc (some .i64) true (α := S_life_Box) Z_life_Box E_life_Box h0.f_boxes]), (1010061, 98, [.mapc none true (α := S_api_Kept) (S_api_Kept.mk [] []) E_api_Kept r3.2]), (1010062, 98, [.mapc none true (α := S_api_Kept) (S_api_Kept.mk [] []) E_api_Kept r4.2])]) (by kernel_rfl) (by kernel_rfl) ?_
          cases h
          exact To.doneB hΓ [1000000, 1010060, 1010061, 1010062] (by kernel_rfl) (by kernel_rfl)
        · replace h := if_f hb h
          refine Wp.skip ?_
          refine To.blockN ?_
          refine To.thenN ?_
          refine Wp.seq ?_
          obtain ⟨r5, hr5, h⟩ := bind_of h
          obtain ⟨r6, hr6, h⟩ := bind_of h
          refine Wp.regionO hm hΓ [] [(2, .recs (α := List UInt8) [] E_string r5), (5, .recs (α := List UInt8) [] E_string r6)] [] [0, 3, 51, 58, 59, 60, 61, 62, 63, 64, 65] [3, 1000000, 1010060, 1010061, 1010062] [0, 3] [3, 1000000, 1010060, 1010061, 1010062] (K' := [(0, .own 1000000 0), (3, .own 3 0)]) (L' := [(3, 47, (List.set (List.set (E_api_Spec a1) 5 (.recs (α := List UInt8) [] E_string r5)) 6 (.recs (α := List UInt8) [] E_string r6))), (1000000, 100, [.mp 1010060, .mp 1010061, .mp 1010062, .val (.int .i64 h0.f_last)]), (1010060, 96, [.mapc (some .i64) true (α := S_life_Box) Z_life_Box E_life_Box h0.f_boxes]), (1010061, 98, [.mapc none true (α := S_api_Kept) (S_api_Kept.mk [] []) E_api_Kept r3.2]), (1010062, 98, [.mapc none true (α := S_api_Kept) (S_api_Kept.mk [] []) E_api_Kept r4.2])]) (ob := [(true = true → CX Try.prog 57 [.recs (α := List UInt8) [] E_string a1.f_Nets] (.recs (α := List UInt8) [] E_string r5)), (true = true → CX Try.prog 57 [.recs (α := List UInt8) [] E_string a1.f_Vols] (.recs (α := List UInt8) [] E_string r6))]) (by kernel_rfl) (by kernel_rfl) (AllP.cons (fun _ => cx (ok_slices_Clone_string_string n a1.f_Nets _ hr5)) (AllP.cons (fun _ => cx (ok_slices_Clone_string_string n a1.f_Vols _ hr6)) AllP.nil)) ?_
          refine To.thenN ?_
          refine Wp.seq ?_
          refine Wp.region hΓ [] [] [] [0, 3] [3, 1000000, 1010060, 1010061, 1010062] (K' := [(0, .own 1000000 0), (3, .own 3 0)]) (L' := [(3, 47, (List.set (List.set (E_api_Spec a1) 5 (.recs (α := List UInt8) [] E_string r5)) 6 (.recs (α := List UInt8) [] E_string r6))), (1000000, 100, [.mp 1010060, .mp 1010061, .mp 1010062, .val (.int .i64 (IntKind.wrap .i64 (h0.f_last + 1)))]), (1010060, 96, [.mapc (some .i64) true (α := S_life_Box) Z_life_Box E_life_Box h0.f_boxes]), (1010061, 98, [.mapc none true (α := S_api_Kept) (S_api_Kept.mk [] []) E_api_Kept r3.2]), (1010062, 98, [.mapc none true (α := S_api_Kept) (S_api_Kept.mk [] []) E_api_Kept r4.2])]) (ob := []) (by kernel_rfl) AllP.nil ?_
          refine To.thenN ?_
          refine Wp.seq ?_
          obtain ⟨r7, hr7, h⟩ := lett_of h
          refine Wp.regionO hm hΓ [] [(13, .agg [.str r7.f_Spec.f_Name, .str r7.f_Spec.f_Project, .str r7.f_Spec.f_Service, .val (.int .i64 r7.f_Spec.f_Number), .str r7.f_Spec.f_Hash, .recs (α := List UInt8) [] E_string r7.f_Spec.f_Nets, .recs (α := List UInt8) [] E_string r7.f_Spec.f_Vols, .str r7.f_Spec.f_Health.f_Test, .val (.int .i64 r7.f_Spec.f_Health.f_Every), .val (.int .i64 r7.f_Spec.f_Health.f_Start), .val (.int .i64 r7.f_Spec.f_Health.f_Retries), .val (.int .i64 r7.f_Spec.f_Restart), .val (.int .i64 r7.f_Spec.f_Tries), .val (.int .i64 r7.f_Id), .val (.int .i64 r7.f_State), .val (.int .i64 r7.f_Code), .val (.int .i64 r7.f_Runs), .val (.int .i64 r7.f_Done), .val (.int .i64 r7.f_At), .val (.bool r7.f_ByHand), .val (.bool r7.f_Sick), .val (.int .i64 r7.f_Probe.f_Health), .val (.int .i64 r7.f_Probe.f_Fails), .val (.int .i64 r7.f_Probe.f_Began), .val (.int .i64 r7.f_Probe.f_Next)]), (14, .mapc (some .i64) true (α := S_life_Box) Z_life_Box E_life_Box (mput h0.f_boxes (.inr (IntKind.wrap .i64 (h0.f_last + 1))) r7))] [] [0, 3, 73, 74, 75, 76, 77, 78, 79, 80, 81, 82, 83, 84, 85, 86] [3, 1000000, 1010060, 1010061, 1010062] [0] [1000000, 1010060, 1010061, 1010062] (K' := [(0, .own 1000000 0)]) (L' := [(1000000, 100, [.mp 1010060, .mp 1010061, .mp 1010062, .val (.int .i64 (IntKind.wrap .i64 (h0.f_last + 1)))]), (1010060, 96, [.mapc (some .i64) true (α := S_life_Box) Z_life_Box E_life_Box (mput h0.f_boxes (.inr (IntKind.wrap .i64 (h0.f_last + 1))) r7)]), (1010061, 98, [.mapc none true (α := S_api_Kept) (S_api_Kept.mk [] []) E_api_Kept r3.2]), (1010062, 98, [.mapc none true (α := S_api_Kept) (S_api_Kept.mk [] []) E_api_Kept r4.2])]) (ob := [(true = true → CX Try.prog 84 [.val (.int .i64 (IntKind.wrap .i64 (h0.f_last + 1))), .agg [.str a1.f_Name, .str a1.f_Project, .str a1.f_Service, .val (.int .i64 a1.f_Number), .str a1.f_Hash, .recs (α := List UInt8) [] E_string r5, .recs (α := List UInt8) [] E_string r6, .str a1.f_Health.f_Test, .val (.int .i64 a1.f_Health.f_Every), .val (.int .i64 a1.f_Health.f_Start), .val (.int .i64 a1.f_Health.f_Retries), .val (.int .i64 a1.f_Restart), .val (.int .i64 a1.f_Tries)]] (.agg [.str r7.f_Spec.f_Name, .str r7.f_Spec.f_Project, .str r7.f_Spec.f_Service, .val (.int .i64 r7.f_Spec.f_Number), .str r7.f_Spec.f_Hash, .recs (α := List UInt8) [] E_string r7.f_Spec.f_Nets, .recs (α := List UInt8) [] E_string r7.f_Spec.f_Vols, .str r7.f_Spec.f_Health.f_Test, .val (.int .i64 r7.f_Spec.f_Health.f_Every), .val (.int .i64 r7.f_Spec.f_Health.f_Start), .val (.int .i64 r7.f_Spec.f_Health.f_Retries), .val (.int .i64 r7.f_Spec.f_Restart), .val (.int .i64 r7.f_Spec.f_Tries), .val (.int .i64 r7.f_Id), .val (.int .i64 r7.f_State), .val (.int .i64 r7.f_Code), .val (.int .i64 r7.f_Runs), .val (.int .i64 r7.f_Done), .val (.int .i64 r7.f_At), .val (.bool r7.f_ByHand), .val (.bool r7.f_Sick), .val (.int .i64 r7.f_Probe.f_Health), .val (.int .i64 r7.f_Probe.f_Fails), .val (.int .i64 r7.f_Probe.f_Began), .val (.int .i64 r7.f_Probe.f_Next)])), (∃ l' : List (MK × S_life_Box), (.mapc (some .i64) true (α := S_life_Box) Z_life_Box E_life_Box (mput h0.f_boxes (.inr (IntKind.wrap .i64 (h0.f_last + 1))) r7) : D) = .mapc (some .i64) true (α := S_life_Box) Z_life_Box E_life_Box l' ∧ MsetOb E_life_Box h0.f_boxes (.inr (IntKind.wrap .i64 (h0.f_last + 1))) [.str r7.f_Spec.f_Name, .str r7.f_Spec.f_Project, .str r7.f_Spec.f_Service, .val (.int .i64 r7.f_Spec.f_Number), .str r7.f_Spec.f_Hash, .recs (α := List UInt8) [] E_string r7.f_Spec.f_Nets, .recs (α := List UInt8) [] E_string r7.f_Spec.f_Vols, .str r7.f_Spec.f_Health.f_Test, .val (.int .i64 r7.f_Spec.f_Health.f_Every), .val (.int .i64 r7.f_Spec.f_Health.f_Start), .val (.int .i64 r7.f_Spec.f_Health.f_Retries), .val (.int .i64 r7.f_Spec.f_Restart), .val (.int .i64 r7.f_Spec.f_Tries), .val (.int .i64 r7.f_Id), .val (.int .i64 r7.f_State), .val (.int .i64 r7.f_Code), .val (.int .i64 r7.f_Runs), .val (.int .i64 r7.f_Done), .val (.int .i64 r7.f_At), .val (.bool r7.f_ByHand), .val (.bool r7.f_Sick), .val (.int .i64 r7.f_Probe.f_Health), .val (.int .i64 r7.f_Probe.f_Fails), .val (.int .i64 r7.f_Probe.f_Began), .val (.int .i64 r7.f_Probe.f_Next)] l')]) (by kernel_rfl) (by kernel_rfl) (AllP.cons (fun _ => cx (ok_life_New (IntKind.wrap .i64 (h0.f_last + 1)) (S_api_Spec.mk a1.f_Name a1.f_Project a1.f_Service a1.f_Number a1.f_Hash r5 r6 a1.f_Health a1.f_Restart a1.f_Tries) _ hr7)) (AllP.cons (⟨_, rfl, r7, Weaks.of_eq (by kernel_rfl), rfl⟩) AllP.nil)) ?_
          refine To.thenN ?_
          refine Wp.seq ?_
          refine Wp.region hΓ [] [] [] [4, 5] [1000000, 1010060, 1010061, 1010062] (K' := [(4, .val (.int .i64 (IntKind.wrap .i64 (h0.f_last + 1)))), (5, .val (.int .i64 0))]) (L' := [(1000000, 100, [.mp 1010060, .mp 1010061, .mp 1010062, .val (.int .i64 (IntKind.wrap .i64 (h0.f_last + 1)))]), (1010060, 96, [.mapc (some .i64) true (α := S_life_Box) Z_life_Box E_life_Box (mput h0.f_boxes (.inr (IntKind.wrap .i64 (h0.f_last + 1))) r7)]), (1010061, 98, [.mapc none true (α := S_api_Kept) (S_api_Kept.mk [] []) E_api_Kept r3.2]), (1010062, 98, [.mapc none true (α := S_api_Kept) (S_api_Kept.mk [] []) E_api_Kept r4.2])]) (ob := []) (by kernel_rfl) AllP.nil ?_
          refine To.thenN ?_
          refine Wp.ret ?_
          refine To.keep (kk := [4, 5]) (kl := [1000000, 1010060, 1010061, 1010062]) (K' := [(4, .val (.int .i64 (IntKind.wrap .i64 (h0.f_last + 1)))), (5, .val (.int .i64 0))]) (L' := [(1000000, 100, [.mp 1010060, .mp 1010061, .mp 1010062, .val (.int .i64 (IntKind.wrap .i64 (h0.f_last + 1)))]), (1010060, 96, [.mapc (some .i64) true (α := S_life_Box) Z_life_Box E_life_Box (mput h0.f_boxes (.inr (IntKind.wrap .i64 (h0.f_last + 1))) r7)]), (1010061, 98, [.mapc none true (α := S_api_Kept) (S_api_Kept.mk [] []) E_api_Kept r3.2]), (1010062, 98, [.mapc none true (α := S_api_Kept) (S_api_Kept.mk [] []) E_api_Kept r4.2])]) (by kernel_rfl) (by kernel_rfl) ?_
          cases h
          exact To.doneB hΓ [1000000, 1010060, 1010061, 1010062] (by kernel_rfl) (by kernel_rfl)
    · cases he
      replace h := sum_r h
      refine To.thenR ?_
      refine To.pre (St.unlock (t := 96) (b := b1) (es := es1) (clock := clock1) (kk := (some .i64)) (ag := true) (α := S_life_Box) (enc := E_life_Box) (l := h0.f_boxes) 1010060 Z_life_Box (by kernel_rfl) (L' := [(1010060, 96, [.mapc (some .i64) true (α := S_life_Box) Z_life_Box E_life_Box h0.f_boxes]), (21, 0, [iterD r01 b1 clock1 seen]), (1000000, 100, [.mp 1010060, .mp 1010061, .mp 1010062, .val (.int .i64 h0.f_last)]), (1010061, 98, [.mapc none true (α := S_api_Kept) (S_api_Kept.mk [] []) E_api_Kept h0.f_nets]), (1010062, 98, [.mapc none true (α := S_api_Kept) (S_api_Kept.mk [] []) E_api_Kept h0.f_vols])]) (by kernel_rfl)) ?_
      refine To.keep (kk := [4, 5]) (kl := [1000000, 1010060, 1010061, 1010062]) (K' := [(4, .val (.int .i64 y.1)), (5, .val (.int .i64 y.2))]) (L' := [(1000000, 100, [.mp 1010060, .mp 1010061, .mp 1010062, .val (.int .i64 h0.f_last)]), (1010060, 96, [.mapc (some .i64) true (α := S_life_Box) Z_life_Box E_life_Box h0.f_boxes]), (1010061, 98, [.mapc none true (α := S_api_Kept) (S_api_Kept.mk [] []) E_api_Kept h0.f_nets]), (1010062, 98, [.mapc none true (α := S_api_Kept) (S_api_Kept.mk [] []) E_api_Kept h0.f_vols])]) (by kernel_rfl) (by kernel_rfl) ?_
      refine To.blockR ?_
      refine To.thenR ?_
      refine To.keep (kk := [4, 5]) (kl := [1000000, 1010060, 1010061, 1010062]) (K' := [(4, .val (.int .i64 y.1)), (5, .val (.int .i64 y.2))]) (L' := [(1000000, 100, [.mp 1010060, .mp 1010061, .mp 1010062, .val (.int .i64 h0.f_last)]), (1010060, 96, [.mapc (some .i64) true (α := S_life_Box) Z_life_Box E_life_Box h0.f_boxes]), (1010061, 98, [.mapc none true (α := S_api_Kept) (S_api_Kept.mk [] []) E_api_Kept h0.f_nets]), (1010062, 98, [.mapc none true (α := S_api_Kept) (S_api_Kept.mk [] []) E_api_Kept h0.f_vols])]) (by kernel_rfl) (by kernel_rfl) ?_
      cases h
      exact To.doneB hΓ [1000000, 1010060, 1010061, 1010062] (by kernel_rfl) (by kernel_rfl)
def probe_Right (a0 : S_api_Check) : Bool :=
  lett ((bif (bif (bif (bif (bif (bif (!(a0.f_Test == [])) then (decide (a0.f_Every ≥ 1)) else false) then (decide (a0.f_Every ≤ 1099511627776)) else false) then (decide (a0.f_Start ≥ 0)) else false) then (decide (a0.f_Start ≤ 1099511627776)) else false) then (decide (a0.f_Retries ≥ 1)) else false) then (decide (a0.f_Retries ≤ 10)) else false) : Bool) fun x1 =>
  x1
theorem ok_probe_Right (a0 : S_api_Check) (r : Bool) (h : probe_Right a0 = r) : CallsX Try.prog 133 [.agg [.str a0.f_Test, .val (.int .i64 a0.f_Every), .val (.int .i64 a0.f_Start), .val (.int .i64 a0.f_Retries)]] (.val (.bool r)) := by
  unfold probe_Right at h
  refine callsX_of (fn := Try.f133) (by kernel_rfl) rfl (by kernel_rfl) (Nat.le_of_ble_eq_true (by kernel_rfl)) fun F0 w0 _ => ?_
  refine Wp.keep (kk := [0]) (kl := []) (K' := [(0, .agg [.str a0.f_Test, .val (.int .i64 a0.f_Every), .val (.int .i64 a0.f_Start), .val (.int .i64 a0.f_Retries)])]) (L' := []) (by kernel_rfl) (by kernel_rfl) ?_
  refine Wp.seq ?_
  refine Wp.region hΓ [] [] [] [1] [1] (K' := [(1, .own 1 0)]) (L' := [(1, 39, [.str a0.f_Test, .val (.int .i64 a0.f_Every), .val (.int .i64 a0.f_Start), .val (.int .i64 a0.f_Retries)])]) (ob := []) (by kernel_rfl) AllP.nil ?_
  refine To.thenN ?_
  refine Wp.seq ?_
  obtain ⟨x1, hx1, h⟩ := lett_of h
  refine Wp.region hΓ [] [] [] [2] [] (K' := [(2, .val (.bool (bif (bif (bif (bif (bif (bif (!(a0.f_Test == [])) then (decide (a0.f_Every ≥ 1)) else false) then (decide (a0.f_Every ≤ 1099511627776)) else false) then (decide (a0.f_Start ≥ 0)) else false) then (decide (a0.f_Start ≤ 1099511627776)) else false) then (decide (a0.f_Retries ≥ 1)) else false) then (decide (a0.f_Retries ≤ 10)) else false)))]) (L' := []) (ob := []) (by kernel_rfl) AllP.nil ?_
  refine To.eq (K' := [(2, .val (.bool x1))]) (L' := []) (by cases hx1; rfl) (by cases hx1; rfl) ?_
  refine To.thenN ?_
  refine Wp.ret ?_
  refine To.keep (kk := [2]) (kl := []) (K' := [(2, .val (.bool x1))]) (L' := []) (by kernel_rfl) (by kernel_rfl) ?_
  cases h
  exact To.done hΓ (by kernel_rfl)
def probe_Begin (a0 : S_api_Check) (a1 : Int) : S_probe_State :=
  if (!(probe_Right a0)) = true then ((S_probe_State.mk 0 0 0 0))
  else ((S_probe_State.mk 1 0 a1 (IntKind.wrap .i64 (a1 + a0.f_Every))))
theorem ok_probe_Begin (a0 : S_api_Check) (a1 : Int) (r : S_probe_State) (h : probe_Begin a0 a1 = r) : CallsX Try.prog 117 [.agg [.str a0.f_Test, .val (.int .i64 a0.f_Every), .val (.int .i64 a0.f_Start), .val (.int .i64 a0.f_Retries)], .val (.int .i64 a1)] (.agg [.val (.int .i64 r.f_Health), .val (.int .i64 r.f_Fails), .val (.int .i64 r.f_Began), .val (.int .i64 r.f_Next)]) := by
  unfold probe_Begin at h
  refine callsX_of (fn := Try.f117) (by kernel_rfl) rfl (by kernel_rfl) (Nat.le_of_ble_eq_true (by kernel_rfl)) fun F0 w0 _ => ?_
  refine Wp.keep (kk := [0, 1]) (kl := []) (K' := [(0, .agg [.str a0.f_Test, .val (.int .i64 a0.f_Every), .val (.int .i64 a0.f_Start), .val (.int .i64 a0.f_Retries)]), (1, .val (.int .i64 a1))]) (L' := []) (by kernel_rfl) (by kernel_rfl) ?_
  refine Wp.seq ?_
  refine Wp.region hΓ [] [] [] [1, 2, 4] [2, 4] (K' := [(1, .val (.int .i64 a1)), (2, .own 2 0), (4, .own 4 0)]) (L' := [(2, 39, [.str a0.f_Test, .val (.int .i64 a0.f_Every), .val (.int .i64 a0.f_Start), .val (.int .i64 a0.f_Retries)]), (4, 83, [.val (.int .i64 0), .val (.int .i64 0), .val (.int .i64 0), .val (.int .i64 0)])]) (ob := []) (by kernel_rfl) AllP.nil ?_
  refine To.thenN ?_
  refine Wp.seq ?_
  refine Wp.seq ?_
  refine Wp.region hΓ [] [(1, .val (.bool (probe_Right a0)))] [] [1, 2, 4, 7] [2, 4] (K' := [(1, .val (.int .i64 a1)), (2, .own 2 0), (4, .own 4 0), (7, .val (.bool (!(probe_Right a0))))]) (L' := [(2, 39, [.str a0.f_Test, .val (.int .i64 a0.f_Every), .val (.int .i64 a0.f_Start), .val (.int .i64 a0.f_Retries)]), (4, 83, [.val (.int .i64 0), .val (.int .i64 0), .val (.int .i64 0), .val (.int .i64 0)])]) (ob := [(true = true → CX Try.prog 133 [.agg [.str a0.f_Test, .val (.int .i64 a0.f_Every), .val (.int .i64 a0.f_Start), .val (.int .i64 a0.f_Retries)]] (.val (.bool (probe_Right a0))))]) (by kernel_rfl) (AllP.cons (fun _ => cx (ok_probe_Right a0 _ rfl)) AllP.nil) ?_
  refine To.thenN ?_
  refine Wp.cond (b := (!(probe_Right a0))) (by kernel_rfl) (fun hb => ?_) (fun hb => ?_)
  · replace h := if_t hb h
    refine Wp.seq ?_
    refine Wp.region hΓ [] [] [] [4] [4] (K' := [(4, .own 4 0)]) (L' := [(4, 83, [.val (.int .i64 0), .val (.int .i64 0), .val (.int .i64 0), .val (.int .i64 0)])]) (ob := []) (by kernel_rfl) AllP.nil ?_
    refine To.thenN ?_
    refine Wp.ret ?_
    refine To.thenR ?_
    refine To.keep (kk := [4]) (kl := [4]) (K' := [(4, .own 4 0)]) (L' := [(4, 83, [.val (.int .i64 0), .val (.int .i64 0), .val (.int .i64 0), .val (.int .i64 0)])]) (by kernel_rfl) (by kernel_rfl) ?_
    cases h
    exact To.done hΓ (by kernel_rfl)
  · replace h := if_f hb h
    refine Wp.skip ?_
    refine To.thenN ?_
    refine Wp.seq ?_
    refine Wp.region hΓ [] [] [] [4] [4] (K' := [(4, .own 4 0)]) (L' := [(4, 83, [.val (.int .i64 1), .val (.int .i64 0), .val (.int .i64 a1), .val (.int .i64 (IntKind.wrap .i64 (a1 + a0.f_Every)))])]) (ob := []) (by kernel_rfl) AllP.nil ?_
    refine To.thenN ?_
    refine Wp.ret ?_
    refine To.keep (kk := [4]) (kl := [4]) (K' := [(4, .own 4 0)]) (L' := [(4, 83, [.val (.int .i64 1), .val (.int .i64 0), .val (.int .i64 a1), .val (.int .i64 (IntKind.wrap .i64 (a1 + a0.f_Every)))])]) (by kernel_rfl) (by kernel_rfl) ?_
    cases h
    exact To.done hΓ (by kernel_rfl)
def life_run (a0 : S_life_Box) (a1 : Int) : S_life_Box :=
  lett (probe_Begin a0.f_Spec.f_Health a1) fun r1 =>
  (S_life_Box.mk a0.f_Spec a0.f_Id 2 0 (IntKind.wrap .i64 (a0.f_Runs + 1)) a0.f_Done (-1) a0.f_ByHand a0.f_Sick r1)
theorem ok_life_run (a0 : S_life_Box) (a1 : Int) (r : S_life_Box) (h : life_run a0 a1 = r) : CallsX Try.prog 100 [.agg [.str a0.f_Spec.f_Name, .str a0.f_Spec.f_Project, .str a0.f_Spec.f_Service, .val (.int .i64 a0.f_Spec.f_Number), .str a0.f_Spec.f_Hash, .recs (α := List UInt8) [] E_string a0.f_Spec.f_Nets, .recs (α := List UInt8) [] E_string a0.f_Spec.f_Vols, .str a0.f_Spec.f_Health.f_Test, .val (.int .i64 a0.f_Spec.f_Health.f_Every), .val (.int .i64 a0.f_Spec.f_Health.f_Start), .val (.int .i64 a0.f_Spec.f_Health.f_Retries), .val (.int .i64 a0.f_Spec.f_Restart), .val (.int .i64 a0.f_Spec.f_Tries), .val (.int .i64 a0.f_Id), .val (.int .i64 a0.f_State), .val (.int .i64 a0.f_Code), .val (.int .i64 a0.f_Runs), .val (.int .i64 a0.f_Done), .val (.int .i64 a0.f_At), .val (.bool a0.f_ByHand), .val (.bool a0.f_Sick), .val (.int .i64 a0.f_Probe.f_Health), .val (.int .i64 a0.f_Probe.f_Fails), .val (.int .i64 a0.f_Probe.f_Began), .val (.int .i64 a0.f_Probe.f_Next)], .val (.int .i64 a1)] (.agg [.str r.f_Spec.f_Name, .str r.f_Spec.f_Project, .str r.f_Spec.f_Service, .val (.int .i64 r.f_Spec.f_Number), .str r.f_Spec.f_Hash, .recs (α := List UInt8) [] E_string r.f_Spec.f_Nets, .recs (α := List UInt8) [] E_string r.f_Spec.f_Vols, .str r.f_Spec.f_Health.f_Test, .val (.int .i64 r.f_Spec.f_Health.f_Every), .val (.int .i64 r.f_Spec.f_Health.f_Start), .val (.int .i64 r.f_Spec.f_Health.f_Retries), .val (.int .i64 r.f_Spec.f_Restart), .val (.int .i64 r.f_Spec.f_Tries), .val (.int .i64 r.f_Id), .val (.int .i64 r.f_State), .val (.int .i64 r.f_Code), .val (.int .i64 r.f_Runs), .val (.int .i64 r.f_Done), .val (.int .i64 r.f_At), .val (.bool r.f_ByHand), .val (.bool r.f_Sick), .val (.int .i64 r.f_Probe.f_Health), .val (.int .i64 r.f_Probe.f_Fails), .val (.int .i64 r.f_Probe.f_Began), .val (.int .i64 r.f_Probe.f_Next)]) := by
  unfold life_run at h
  refine callsX_of (fn := Try.f100) (by kernel_rfl) rfl (by kernel_rfl) (Nat.le_of_ble_eq_true (by kernel_rfl)) fun F0 w0 _ => ?_
  refine Wp.keep (kk := [0, 1]) (kl := []) (K' := [(0, .agg (E_life_Box a0)), (1, .val (.int .i64 a1))]) (L' := []) (by kernel_rfl) (by kernel_rfl) ?_
  refine Wp.seq ?_
  refine Wp.region hΓ [] [] [] [1, 2, 4] [2, 4] (K' := [(1, .val (.int .i64 a1)), (2, .own 2 0), (4, .own 4 0)]) (L' := [(2, 85, (E_life_Box a0)), (4, 85, [.str [], .str [], .str [], .val (.int .i64 0), .str [], .val (.slice none 0 0), .val (.slice none 0 0), .str [], .val (.int .i64 0), .val (.int .i64 0), .val (.int .i64 0), .val (.int .i64 0), .val (.int .i64 0), .val (.int .i64 0), .val (.int .i64 0), .val (.int .i64 0), .val (.int .i64 0), .val (.int .i64 0), .val (.int .i64 0), .val (.bool false), .val (.bool false), .val (.int .i64 0), .val (.int .i64 0), .val (.int .i64 0), .val (.int .i64 0)])]) (ob := []) (by kernel_rfl) AllP.nil ?_
  refine To.thenN ?_
  refine Wp.seq ?_
  refine Wp.region hΓ [] [] [] [1, 2, 4] [2, 4] (K' := [(1, .val (.int .i64 a1)), (2, .own 2 0), (4, .own 4 0)]) (L' := [(2, 85, (List.set (List.set (List.set (E_life_Box a0) 14 (.val (.int .i64 2))) 15 (.val (.int .i64 0))) 18 (.val (.int .i64 (-1))))), (4, 85, [.str [], .str [], .str [], .val (.int .i64 0), .str [], .val (.slice none 0 0), .val (.slice none 0 0), .str [], .val (.int .i64 0), .val (.int .i64 0), .val (.int .i64 0), .val (.int .i64 0), .val (.int .i64 0), .val (.int .i64 0), .val (.int .i64 0), .val (.int .i64 0), .val (.int .i64 0), .val (.int .i64 0), .val (.int .i64 0), .val (.bool false), .val (.bool false), .val (.int .i64 0), .val (.int .i64 0), .val (.int .i64 0), .val (.int .i64 0)])]) (ob := []) (by kernel_rfl) AllP.nil ?_
  refine To.thenN ?_
  refine Wp.seq ?_
  refine Wp.region hΓ [] [] [] [1, 2, 4] [2, 4] (K' := [(1, .val (.int .i64 a1)), (2, .own 2 0), (4, .own 4 0)]) (L' := [(2, 85, (List.set (List.set (List.set (List.set (E_life_Box a0) 14 (.val (.int .i64 2))) 15 (.val (.int .i64 0))) 16 (.val (.int .i64 (IntKind.wrap .i64 (a0.f_Runs + 1))))) 18 (.val (.int .i64 (-1))))), (4, 85, [.str [], .str [], .str [], .val (.int .i64 0), .str [], .val (.slice none 0 0), .val (.slice none 0 0), .str [], .val (.int .i64 0), .val (.int .i64 0), .val (.int .i64 0), .val (.int .i64 0), .val (.int .i64 0), .val (.int .i64 0), .val (.int .i64 0), .val (.int .i64 0), .val (.int .i64 0), .val (.int .i64 0), .val (.int .i64 0), .val (.bool false), .val (.bool false), .val (.int .i64 0), .val (.int .i64 0), .val (.int .i64 0), .val (.int .i64 0)])]) (ob := []) (by kernel_rfl) AllP.nil ?_
  refine To.thenN ?_
  refine Wp.seq ?_
  obtain ⟨r1, hr1, h⟩ := lett_of h
  refine Wp.region hΓ [] [(4, .agg [.val (.int .i64 r1.f_Health), .val (.int .i64 r1.f_Fails), .val (.int .i64 r1.f_Began), .val (.int .i64 r1.f_Next)])] [] [2, 4] [2, 4] (K' := [(2, .own 2 0), (4, .own 4 0)]) (L' := [(2, 85, (List.set (List.set (List.set (List.set (List.set (List.set (List.set (List.set (E_life_Box a0) 14 (.val (.int .i64 2))) 15 (.val (.int .i64 0))) 16 (.val (.int .i64 (IntKind.wrap .i64 (a0.f_Runs + 1))))) 18 (.val (.int .i64 (-1)))) 21 (.val (.int .i64 r1.f_Health))) 22 (.val (.int .i64 r1.f_Fails))) 23 (.val (.int .i64 r1.f_Began))) 24 (.val (.int .i64 r1.f_Next)))), (4, 85, [.str [], .str [], .str [], .val (.int .i64 0), .str [], .val (.slice none 0 0), .val (.slice none 0 0), .str [], .val (.int .i64 0), .val (.int .i64 0), .val (.int .i64 0), .val (.int .i64 0), .val (.int .i64 0), .val (.int .i64 0), .val (.int .i64 0), .val (.int .i64 0), .val (.int .i64 0), .val (.int .i64 0), .val (.int .i64 0), .val (.bool false), .val (.bool false), .val (.int .i64 0), .val (.int .i64 0), .val (.int .i64 0), .val (.int .i64 0)])]) (ob := [(true = true → CX Try.prog 117 [.agg [.str a0.f_Spec.f_Health.f_Test, .val (.int .i64 a0.f_Spec.f_Health.f_Every), .val (.int .i64 a0.f_Spec.f_Health.f_Start), .val (.int .i64 a0.f_Spec.f_Health.f_Retries)], .val (.int .i64 a1)] (.agg [.val (.int .i64 r1.f_Health), .val (.int .i64 r1.f_Fails), .val (.int .i64 r1.f_Began), .val (.int .i64 r1.f_Next)]))]) (by kernel_rfl) (AllP.cons (fun _ => cx (ok_probe_Begin a0.f_Spec.f_Health a1 _ hr1)) AllP.nil) ?_
  refine To.thenN ?_
  refine Wp.seq ?_
  refine Wp.region hΓ [] [] [] [4] [4] (K' := [(4, .own 4 0)]) (L' := [(4, 85, (List.set (List.set (List.set (List.set (List.set (List.set (List.set (List.set (E_life_Box a0) 14 (.val (.int .i64 2))) 15 (.val (.int .i64 0))) 16 (.val (.int .i64 (IntKind.wrap .i64 (a0.f_Runs + 1))))) 18 (.val (.int .i64 (-1)))) 21 (.val (.int .i64 r1.f_Health))) 22 (.val (.int .i64 r1.f_Fails))) 23 (.val (.int .i64 r1.f_Began))) 24 (.val (.int .i64 r1.f_Next))))]) (ob := []) (by kernel_rfl) AllP.nil ?_
  refine To.thenN ?_
  refine Wp.ret ?_
  refine To.keep (kk := [4]) (kl := [4]) (K' := [(4, .own 4 0)]) (L' := [(4, 85, (List.set (List.set (List.set (List.set (List.set (List.set (List.set (List.set (E_life_Box a0) 14 (.val (.int .i64 2))) 15 (.val (.int .i64 0))) 16 (.val (.int .i64 (IntKind.wrap .i64 (a0.f_Runs + 1))))) 18 (.val (.int .i64 (-1)))) 21 (.val (.int .i64 r1.f_Health))) 22 (.val (.int .i64 r1.f_Fails))) 23 (.val (.int .i64 r1.f_Began))) 24 (.val (.int .i64 r1.f_Next))))]) (by kernel_rfl) (by kernel_rfl) ?_
  cases h
  exact To.done hΓ (by kernel_rfl)
def life_Start (a0 : S_life_Box) (a1 : Int) : S_life_Box × Int :=
  if (a0.f_State == 2) = true then ((a0, 13))
  else (lett (life_run (S_life_Box.mk a0.f_Spec a0.f_Id a0.f_State a0.f_Code a0.f_Runs 0 a0.f_At false a0.f_Sick a0.f_Probe) a1) fun r1 =>
  (r1, 0))
theorem ok_life_Start (a0 : S_life_Box) (a1 : Int) (r : S_life_Box × Int) (h : life_Start a0 a1 = r) : CallsX Try.prog 85 [.agg [.str a0.f_Spec.f_Name, .str a0.f_Spec.f_Project, .str a0.f_Spec.f_Service, .val (.int .i64 a0.f_Spec.f_Number), .str a0.f_Spec.f_Hash, .recs (α := List UInt8) [] E_string a0.f_Spec.f_Nets, .recs (α := List UInt8) [] E_string a0.f_Spec.f_Vols, .str a0.f_Spec.f_Health.f_Test, .val (.int .i64 a0.f_Spec.f_Health.f_Every), .val (.int .i64 a0.f_Spec.f_Health.f_Start), .val (.int .i64 a0.f_Spec.f_Health.f_Retries), .val (.int .i64 a0.f_Spec.f_Restart), .val (.int .i64 a0.f_Spec.f_Tries), .val (.int .i64 a0.f_Id), .val (.int .i64 a0.f_State), .val (.int .i64 a0.f_Code), .val (.int .i64 a0.f_Runs), .val (.int .i64 a0.f_Done), .val (.int .i64 a0.f_At), .val (.bool a0.f_ByHand), .val (.bool a0.f_Sick), .val (.int .i64 a0.f_Probe.f_Health), .val (.int .i64 a0.f_Probe.f_Fails), .val (.int .i64 a0.f_Probe.f_Began), .val (.int .i64 a0.f_Probe.f_Next)], .val (.int .i64 a1)] (.tup [.agg [.str r.1.f_Spec.f_Name, .str r.1.f_Spec.f_Project, .str r.1.f_Spec.f_Service, .val (.int .i64 r.1.f_Spec.f_Number), .str r.1.f_Spec.f_Hash, .recs (α := List UInt8) [] E_string r.1.f_Spec.f_Nets, .recs (α := List UInt8) [] E_string r.1.f_Spec.f_Vols, .str r.1.f_Spec.f_Health.f_Test, .val (.int .i64 r.1.f_Spec.f_Health.f_Every), .val (.int .i64 r.1.f_Spec.f_Health.f_Start), .val (.int .i64 r.1.f_Spec.f_Health.f_Retries), .val (.int .i64 r.1.f_Spec.f_Restart), .val (.int .i64 r.1.f_Spec.f_Tries), .val (.int .i64 r.1.f_Id), .val (.int .i64 r.1.f_State), .val (.int .i64 r.1.f_Code), .val (.int .i64 r.1.f_Runs), .val (.int .i64 r.1.f_Done), .val (.int .i64 r.1.f_At), .val (.bool r.1.f_ByHand), .val (.bool r.1.f_Sick), .val (.int .i64 r.1.f_Probe.f_Health), .val (.int .i64 r.1.f_Probe.f_Fails), .val (.int .i64 r.1.f_Probe.f_Began), .val (.int .i64 r.1.f_Probe.f_Next)], .val (.int .i64 r.2)]) := by
  unfold life_Start at h
  refine callsX_of (fn := Try.f85) (by kernel_rfl) rfl (by kernel_rfl) (Nat.le_of_ble_eq_true (by kernel_rfl)) fun F0 w0 _ => ?_
  refine Wp.keep (kk := [0, 1]) (kl := []) (K' := [(0, .agg (E_life_Box a0)), (1, .val (.int .i64 a1))]) (L' := []) (by kernel_rfl) (by kernel_rfl) ?_
  refine Wp.seq ?_
  refine Wp.region hΓ [] [] [] [1, 2, 4] [2, 4] (K' := [(1, .val (.int .i64 a1)), (2, .own 2 0), (4, .own 4 0)]) (L' := [(2, 85, (E_life_Box a0)), (4, 85, [.str [], .str [], .str [], .val (.int .i64 0), .str [], .val (.slice none 0 0), .val (.slice none 0 0), .str [], .val (.int .i64 0), .val (.int .i64 0), .val (.int .i64 0), .val (.int .i64 0), .val (.int .i64 0), .val (.int .i64 0), .val (.int .i64 0), .val (.int .i64 0), .val (.int .i64 0), .val (.int .i64 0), .val (.int .i64 0), .val (.bool false), .val (.bool false), .val (.int .i64 0), .val (.int .i64 0), .val (.int .i64 0), .val (.int .i64 0)])]) (ob := []) (by kernel_rfl) AllP.nil ?_
  refine To.thenN ?_
  refine Wp.seq ?_
  refine Wp.seq ?_
  refine Wp.region hΓ [] [] [] [1, 2, 4, 8] [2, 4] (K' := [(1, .val (.int .i64 a1)), (2, .own 2 0), (4, .own 4 0), (8, .val (.bool (a0.f_State == 2)))]) (L' := [(2, 85, (E_life_Box a0)), (4, 85, [.str [], .str [], .str [], .val (.int .i64 0), .str [], .val (.slice none 0 0), .val (.slice none 0 0), .str [], .val (.int .i64 0), .val (.int .i64 0), .val (.int .i64 0), .val (.int .i64 0), .val (.int .i64 0), .val (.int .i64 0), .val (.int .i64 0), .val (.int .i64 0), .val (.int .i64 0), .val (.int .i64 0), .val (.int .i64 0), .val (.bool false), .val (.bool false), .val (.int .i64 0), .val (.int .i64 0), .val (.int .i64 0), .val (.int .i64 0)])]) (ob := []) (by kernel_rfl) AllP.nil ?_
  refine To.thenN ?_
  refine Wp.cond (b := (a0.f_State == 2)) (by kernel_rfl) (fun hb => ?_) (fun hb => ?_)
  · replace h := if_t hb h
    refine Wp.seq ?_
    refine Wp.region hΓ [] [] [] [4, 5] [4] (K' := [(4, .own 4 0), (5, .val (.int .i64 13))]) (L' := [(4, 85, (E_life_Box a0))]) (ob := []) (by kernel_rfl) AllP.nil ?_
    refine To.thenN ?_
    refine Wp.ret ?_
    refine To.thenR ?_
    refine To.keep (kk := [4, 5]) (kl := [4]) (K' := [(4, .own 4 0), (5, .val (.int .i64 13))]) (L' := [(4, 85, (E_life_Box a0))]) (by kernel_rfl) (by kernel_rfl) ?_
    cases h
    exact To.done hΓ (by kernel_rfl)
  · replace h := if_f hb h
    refine Wp.skip ?_
    refine To.thenN ?_
    refine Wp.seq ?_
    refine Wp.region hΓ [] [] [] [1, 2, 4] [2, 4] (K' := [(1, .val (.int .i64 a1)), (2, .own 2 0), (4, .own 4 0)]) (L' := [(2, 85, (List.set (List.set (E_life_Box a0) 17 (.val (.int .i64 0))) 19 (.val (.bool false)))), (4, 85, [.str [], .str [], .str [], .val (.int .i64 0), .str [], .val (.slice none 0 0), .val (.slice none 0 0), .str [], .val (.int .i64 0), .val (.int .i64 0), .val (.int .i64 0), .val (.int .i64 0), .val (.int .i64 0), .val (.int .i64 0), .val (.int .i64 0), .val (.int .i64 0), .val (.int .i64 0), .val (.int .i64 0), .val (.int .i64 0), .val (.bool false), .val (.bool false), .val (.int .i64 0), .val (.int .i64 0), .val (.int .i64 0), .val (.int .i64 0)])]) (ob := []) (by kernel_rfl) AllP.nil ?_
    refine To.thenN ?_
    refine Wp.seq ?_
    obtain ⟨r1, hr1, h⟩ := lett_of h
    refine Wp.region hΓ [] [(2, .agg [.str r1.f_Spec.f_Name, .str r1.f_Spec.f_Project, .str r1.f_Spec.f_Service, .val (.int .i64 r1.f_Spec.f_Number), .str r1.f_Spec.f_Hash, .recs (α := List UInt8) [] E_string r1.f_Spec.f_Nets, .recs (α := List UInt8) [] E_string r1.f_Spec.f_Vols, .str r1.f_Spec.f_Health.f_Test, .val (.int .i64 r1.f_Spec.f_Health.f_Every), .val (.int .i64 r1.f_Spec.f_Health.f_Start), .val (.int .i64 r1.f_Spec.f_Health.f_Retries), .val (.int .i64 r1.f_Spec.f_Restart), .val (.int .i64 r1.f_Spec.f_Tries), .val (.int .i64 r1.f_Id), .val (.int .i64 r1.f_State), .val (.int .i64 r1.f_Code), .val (.int .i64 r1.f_Runs), .val (.int .i64 r1.f_Done), .val (.int .i64 r1.f_At), .val (.bool r1.f_ByHand), .val (.bool r1.f_Sick), .val (.int .i64 r1.f_Probe.f_Health), .val (.int .i64 r1.f_Probe.f_Fails), .val (.int .i64 r1.f_Probe.f_Began), .val (.int .i64 r1.f_Probe.f_Next)])] [] [4, 5] [4] (K' := [(4, .own 4 0), (5, .val (.int .i64 0))]) (L' := [(4, 85, (E_life_Box r1))]) (ob := [(true = true → CX Try.prog 100 [.agg [.str a0.f_Spec.f_Name, .str a0.f_Spec.f_Project, .str a0.f_Spec.f_Service, .val (.int .i64 a0.f_Spec.f_Number), .str a0.f_Spec.f_Hash, .recs (α := List UInt8) [] E_string a0.f_Spec.f_Nets, .recs (α := List UInt8) [] E_string a0.f_Spec.f_Vols, .str a0.f_Spec.f_Health.f_Test, .val (.int .i64 a0.f_Spec.f_Health.f_Every), .val (.int .i64 a0.f_Spec.f_Health.f_Start), .val (.int .i64 a0.f_Spec.f_Health.f_Retries), .val (.int .i64 a0.f_Spec.f_Restart), .val (.int .i64 a0.f_Spec.f_Tries), .val (.int .i64 a0.f_Id), .val (.int .i64 a0.f_State), .val (.int .i64 a0.f_Code), .val (.int .i64 a0.f_Runs), .val (.int .i64 0), .val (.int .i64 a0.f_At), .val (.bool false), .val (.bool a0.f_Sick), .val (.int .i64 a0.f_Probe.f_Health), .val (.int .i64 a0.f_Probe.f_Fails), .val (.int .i64 a0.f_Probe.f_Began), .val (.int .i64 a0.f_Probe.f_Next)], .val (.int .i64 a1)] (.agg [.str r1.f_Spec.f_Name, .str r1.f_Spec.f_Project, .str r1.f_Spec.f_Service, .val (.int .i64 r1.f_Spec.f_Number), .str r1.f_Spec.f_Hash, .recs (α := List UInt8) [] E_string r1.f_Spec.f_Nets, .recs (α := List UInt8) [] E_string r1.f_Spec.f_Vols, .str r1.f_Spec.f_Health.f_Test, .val (.int .i64 r1.f_Spec.f_Health.f_Every), .val (.int .i64 r1.f_Spec.f_Health.f_Start), .val (.int .i64 r1.f_Spec.f_Health.f_Retries), .val (.int .i64 r1.f_Spec.f_Restart), .val (.int .i64 r1.f_Spec.f_Tries), .val (.int .i64 r1.f_Id), .val (.int .i64 r1.f_State), .val (.int .i64 r1.f_Code), .val (.int .i64 r1.f_Runs), .val (.int .i64 r1.f_Done), .val (.int .i64 r1.f_At), .val (.bool r1.f_ByHand), .val (.bool r1.f_Sick), .val (.int .i64 r1.f_Probe.f_Health), .val (.int .i64 r1.f_Probe.f_Fails), .val (.int .i64 r1.f_Probe.f_Began), .val (.int .i64 r1.f_Probe.f_Next)]))]) (by kernel_rfl) (AllP.cons (fun _ => cx (ok_life_run (S_life_Box.mk a0.f_Spec a0.f_Id a0.f_State a0.f_Code a0.f_Runs 0 a0.f_At false a0.f_Sick a0.f_Probe) a1 _ hr1)) AllP.nil) ?_
    refine To.thenN ?_
    refine Wp.ret ?_
    refine To.keep (kk := [4, 5]) (kl := [4]) (K' := [(4, .own 4 0), (5, .val (.int .i64 0))]) (L' := [(4, 85, (E_life_Box r1))]) (by kernel_rfl) (by kernel_rfl) ?_
    cases h
    exact To.done hΓ (by kernel_rfl)
def life_Stop_j1 (b1 : S_life_Box) (b2 : S_life_Box) : Sum (S_life_Box × S_life_Box) (Int × S_life_Box) :=
  if (b1.f_State == 2) = true then ((.inl ((S_life_Box.mk b1.f_Spec b1.f_Id 3 143 b1.f_Runs b1.f_Done b1.f_At b1.f_ByHand b1.f_Sick b1.f_Probe), b2)))
  else (if (b1.f_At == (-1)) = true then ((.inr (13, b1)))
  else ((.inl (b1, b2))))
theorem ok_life_Stop_j1 (b1 : S_life_Box) (b2 : S_life_Box) (o : Sum (S_life_Box × S_life_Box) (Int × S_life_Box)) (h : life_Stop_j1 b1 b2 = o) {F0 : Fz} {w0 : Pt Try.prog} {Q : Exit → Act → World → Prop} (hQ : (Sum.elim (fun s => To 18 F0 w0 [(1, .own 1 0), (2, .own 2 0)] [(1, 85, [.str s.1.f_Spec.f_Name, .str s.1.f_Spec.f_Project, .str s.1.f_Spec.f_Service, .val (.int .i64 s.1.f_Spec.f_Number), .str s.1.f_Spec.f_Hash, .recs (α := List UInt8) [] E_string s.1.f_Spec.f_Nets, .recs (α := List UInt8) [] E_string s.1.f_Spec.f_Vols, .str s.1.f_Spec.f_Health.f_Test, .val (.int .i64 s.1.f_Spec.f_Health.f_Every), .val (.int .i64 s.1.f_Spec.f_Health.f_Start), .val (.int .i64 s.1.f_Spec.f_Health.f_Retries), .val (.int .i64 s.1.f_Spec.f_Restart), .val (.int .i64 s.1.f_Spec.f_Tries), .val (.int .i64 s.1.f_Id), .val (.int .i64 s.1.f_State), .val (.int .i64 s.1.f_Code), .val (.int .i64 s.1.f_Runs), .val (.int .i64 s.1.f_Done), .val (.int .i64 s.1.f_At), .val (.bool s.1.f_ByHand), .val (.bool s.1.f_Sick), .val (.int .i64 s.1.f_Probe.f_Health), .val (.int .i64 s.1.f_Probe.f_Fails), .val (.int .i64 s.1.f_Probe.f_Began), .val (.int .i64 s.1.f_Probe.f_Next)]), (2, 85, [.str s.2.f_Spec.f_Name, .str s.2.f_Spec.f_Project, .str s.2.f_Spec.f_Service, .val (.int .i64 s.2.f_Spec.f_Number), .str s.2.f_Spec.f_Hash, .recs (α := List UInt8) [] E_string s.2.f_Spec.f_Nets, .recs (α := List UInt8) [] E_string s.2.f_Spec.f_Vols, .str s.2.f_Spec.f_Health.f_Test, .val (.int .i64 s.2.f_Spec.f_Health.f_Every), .val (.int .i64 s.2.f_Spec.f_Health.f_Start), .val (.int .i64 s.2.f_Spec.f_Health.f_Retries), .val (.int .i64 s.2.f_Spec.f_Restart), .val (.int .i64 s.2.f_Spec.f_Tries), .val (.int .i64 s.2.f_Id), .val (.int .i64 s.2.f_State), .val (.int .i64 s.2.f_Code), .val (.int .i64 s.2.f_Runs), .val (.int .i64 s.2.f_Done), .val (.int .i64 s.2.f_At), .val (.bool s.2.f_ByHand), .val (.bool s.2.f_Sick), .val (.int .i64 s.2.f_Probe.f_Health), .val (.int .i64 s.2.f_Probe.f_Fails), .val (.int .i64 s.2.f_Probe.f_Began), .val (.int .i64 s.2.f_Probe.f_Next)])] .normal Q) (fun s => To 18 F0 w0 [(2, .own 2 0), (3, .val (.int .i64 s.1))] [(2, 85, [.str s.2.f_Spec.f_Name, .str s.2.f_Spec.f_Project, .str s.2.f_Spec.f_Service, .val (.int .i64 s.2.f_Spec.f_Number), .str s.2.f_Spec.f_Hash, .recs (α := List UInt8) [] E_string s.2.f_Spec.f_Nets, .recs (α := List UInt8) [] E_string s.2.f_Spec.f_Vols, .str s.2.f_Spec.f_Health.f_Test, .val (.int .i64 s.2.f_Spec.f_Health.f_Every), .val (.int .i64 s.2.f_Spec.f_Health.f_Start), .val (.int .i64 s.2.f_Spec.f_Health.f_Retries), .val (.int .i64 s.2.f_Spec.f_Restart), .val (.int .i64 s.2.f_Spec.f_Tries), .val (.int .i64 s.2.f_Id), .val (.int .i64 s.2.f_State), .val (.int .i64 s.2.f_Code), .val (.int .i64 s.2.f_Runs), .val (.int .i64 s.2.f_Done), .val (.int .i64 s.2.f_At), .val (.bool s.2.f_ByHand), .val (.bool s.2.f_Sick), .val (.int .i64 s.2.f_Probe.f_Health), .val (.int .i64 s.2.f_Probe.f_Fails), .val (.int .i64 s.2.f_Probe.f_Began), .val (.int .i64 s.2.f_Probe.f_Next)])] .ret Q)) o) : Wp Try.prog 18 F0 w0 [(1, .own 1 0), (2, .own 2 0)] [(1, 85, (E_life_Box b1)), (2, 85, (E_life_Box b2))] (cA (cB (cF Try.f86))) Q := by
  unfold life_Stop_j1 at h
  refine Wp.block ?_
  refine Wp.seq ?_
  refine Wp.region hΓ [] [] [] [1, 2, 4] [1, 2] (K' := [(1, .own 1 0), (2, .own 2 0), (4, .val (.bool (b1.f_State == 2)))]) (L' := [(1, 85, (E_life_Box b1)), (2, 85, (E_life_Box b2))]) (ob := []) (by kernel_rfl) AllP.nil ?_
  refine To.thenN ?_
  refine Wp.cond (b := (b1.f_State == 2)) (by kernel_rfl) (fun hb => ?_) (fun hb => ?_)
  · replace h := if_t hb h
    refine Wp.region hΓ [] [] [] [1, 2] [1, 2] (K' := [(1, .own 1 0), (2, .own 2 0)]) (L' := [(1, 85, (List.set (List.set (E_life_Box b1) 14 (.val (.int .i64 3))) 15 (.val (.int .i64 143)))), (2, 85, (E_life_Box b2))]) (ob := []) (by kernel_rfl) AllP.nil ?_
    refine To.blockN ?_
    refine To.keep (kk := [1, 2]) (kl := [1, 2]) (K' := [(1, .own 1 0), (2, .own 2 0)]) (L' := [(1, 85, (List.set (List.set (E_life_Box b1) 14 (.val (.int .i64 3))) 15 (.val (.int .i64 143)))), (2, 85, (E_life_Box b2))]) (by kernel_rfl) (by kernel_rfl) ?_
    cases h
    exact hQ
  · replace h := if_f hb h
    refine Wp.seq ?_
    refine Wp.region hΓ [] [] [] [1, 2, 10] [1, 2] (K' := [(1, .own 1 0), (2, .own 2 0), (10, .val (.bool (b1.f_At == (-1))))]) (L' := [(1, 85, (E_life_Box b1)), (2, 85, (E_life_Box b2))]) (ob := []) (by kernel_rfl) AllP.nil ?_
    refine To.thenN ?_
    refine Wp.cond (b := (b1.f_At == (-1))) (by kernel_rfl) (fun hb => ?_) (fun hb => ?_)
    · replace h := if_t hb h
      refine Wp.seq ?_
      refine Wp.region hΓ [] [] [] [2, 3] [2] (K' := [(2, .own 2 0), (3, .val (.int .i64 13))]) (L' := [(2, 85, (E_life_Box b1))]) (ob := []) (by kernel_rfl) AllP.nil ?_
      refine To.thenN ?_
      refine Wp.ret ?_
      refine To.blockR ?_
      refine To.keep (kk := [2, 3]) (kl := [2]) (K' := [(2, .own 2 0), (3, .val (.int .i64 13))]) (L' := [(2, 85, (E_life_Box b1))]) (by kernel_rfl) (by kernel_rfl) ?_
      cases h
      exact hQ
    · replace h := if_f hb h
      refine Wp.skip ?_
      refine To.blockN ?_
      refine To.keep (kk := [1, 2]) (kl := [1, 2]) (K' := [(1, .own 1 0), (2, .own 2 0)]) (L' := [(1, 85, (E_life_Box b1)), (2, 85, (E_life_Box b2))]) (by kernel_rfl) (by kernel_rfl) ?_
      cases h
      exact hQ
def life_Stop (a0 : S_life_Box) : S_life_Box × Int :=
  lett (life_Stop_j1 a0 (S_life_Box.mk (S_api_Spec.mk [] [] [] 0 [] [] [] (S_api_Check.mk [] 0 0 0) 0 0) 0 0 0 0 0 0 false false (S_probe_State.mk 0 0 0 0))) fun o1 =>
  (Sum.elim (fun o1 => ((S_life_Box.mk o1.1.f_Spec o1.1.f_Id o1.1.f_State o1.1.f_Code o1.1.f_Runs o1.1.f_Done (-1) true o1.1.f_Sick o1.1.f_Probe), 0)) (fun o1 => (o1.2, o1.1))) o1
theorem ok_life_Stop (a0 : S_life_Box) (r : S_life_Box × Int) (h : life_Stop a0 = r) : CallsX Try.prog 86 [.agg [.str a0.f_Spec.f_Name, .str a0.f_Spec.f_Project, .str a0.f_Spec.f_Service, .val (.int .i64 a0.f_Spec.f_Number), .str a0.f_Spec.f_Hash, .recs (α := List UInt8) [] E_string a0.f_Spec.f_Nets, .recs (α := List UInt8) [] E_string a0.f_Spec.f_Vols, .str a0.f_Spec.f_Health.f_Test, .val (.int .i64 a0.f_Spec.f_Health.f_Every), .val (.int .i64 a0.f_Spec.f_Health.f_Start), .val (.int .i64 a0.f_Spec.f_Health.f_Retries), .val (.int .i64 a0.f_Spec.f_Restart), .val (.int .i64 a0.f_Spec.f_Tries), .val (.int .i64 a0.f_Id), .val (.int .i64 a0.f_State), .val (.int .i64 a0.f_Code), .val (.int .i64 a0.f_Runs), .val (.int .i64 a0.f_Done), .val (.int .i64 a0.f_At), .val (.bool a0.f_ByHand), .val (.bool a0.f_Sick), .val (.int .i64 a0.f_Probe.f_Health), .val (.int .i64 a0.f_Probe.f_Fails), .val (.int .i64 a0.f_Probe.f_Began), .val (.int .i64 a0.f_Probe.f_Next)]] (.tup [.agg [.str r.1.f_Spec.f_Name, .str r.1.f_Spec.f_Project, .str r.1.f_Spec.f_Service, .val (.int .i64 r.1.f_Spec.f_Number), .str r.1.f_Spec.f_Hash, .recs (α := List UInt8) [] E_string r.1.f_Spec.f_Nets, .recs (α := List UInt8) [] E_string r.1.f_Spec.f_Vols, .str r.1.f_Spec.f_Health.f_Test, .val (.int .i64 r.1.f_Spec.f_Health.f_Every), .val (.int .i64 r.1.f_Spec.f_Health.f_Start), .val (.int .i64 r.1.f_Spec.f_Health.f_Retries), .val (.int .i64 r.1.f_Spec.f_Restart), .val (.int .i64 r.1.f_Spec.f_Tries), .val (.int .i64 r.1.f_Id), .val (.int .i64 r.1.f_State), .val (.int .i64 r.1.f_Code), .val (.int .i64 r.1.f_Runs), .val (.int .i64 r.1.f_Done), .val (.int .i64 r.1.f_At), .val (.bool r.1.f_ByHand), .val (.bool r.1.f_Sick), .val (.int .i64 r.1.f_Probe.f_Health), .val (.int .i64 r.1.f_Probe.f_Fails), .val (.int .i64 r.1.f_Probe.f_Began), .val (.int .i64 r.1.f_Probe.f_Next)], .val (.int .i64 r.2)]) := by
  unfold life_Stop at h
  refine callsX_of (fn := Try.f86) (by kernel_rfl) rfl (by kernel_rfl) (Nat.le_of_ble_eq_true (by kernel_rfl)) fun F0 w0 _ => ?_
  refine Wp.keep (kk := [0]) (kl := []) (K' := [(0, .agg (E_life_Box a0))]) (L' := []) (by kernel_rfl) (by kernel_rfl) ?_
  refine Wp.seq ?_
  refine Wp.region hΓ [] [] [] [1, 2] [1, 2] (K' := [(1, .own 1 0), (2, .own 2 0)]) (L' := [(1, 85, (E_life_Box a0)), (2, 85, [.str [], .str [], .str [], .val (.int .i64 0), .str [], .val (.slice none 0 0), .val (.slice none 0 0), .str [], .val (.int .i64 0), .val (.int .i64 0), .val (.int .i64 0), .val (.int .i64 0), .val (.int .i64 0), .val (.int .i64 0), .val (.int .i64 0), .val (.int .i64 0), .val (.int .i64 0), .val (.int .i64 0), .val (.int .i64 0), .val (.bool false), .val (.bool false), .val (.int .i64 0), .val (.int .i64 0), .val (.int .i64 0), .val (.int .i64 0)])]) (ob := []) (by kernel_rfl) AllP.nil ?_
  refine To.thenN ?_
  refine Wp.seq ?_
  obtain ⟨o1, ho1, h⟩ := lett_of h
  refine Wp.keep (kk := [1, 2]) (kl := [1, 2]) (K' := [(1, .own 1 0), (2, .own 2 0)]) (L' := [(1, 85, (E_life_Box a0)), (2, 85, [.str [], .str [], .str [], .val (.int .i64 0), .str [], .val (.slice none 0 0), .val (.slice none 0 0), .str [], .val (.int .i64 0), .val (.int .i64 0), .val (.int .i64 0), .val (.int .i64 0), .val (.int .i64 0), .val (.int .i64 0), .val (.int .i64 0), .val (.int .i64 0), .val (.int .i64 0), .val (.int .i64 0), .val (.int .i64 0), .val (.bool false), .val (.bool false), .val (.int .i64 0), .val (.int .i64 0), .val (.int .i64 0), .val (.int .i64 0)])]) (by kernel_rfl) (by kernel_rfl) ?_
  refine Wp.weak (K' := [(1, .own 1 0), (2, .own 2 0)]) (L' := [(1, 85, (E_life_Box a0)), (2, 85, [.str [], .str [], .str [], .val (.int .i64 0), .str [], .recs (α := List UInt8) [] E_string [], .recs (α := List UInt8) [] E_string [], .str [], .val (.int .i64 0), .val (.int .i64 0), .val (.int .i64 0), .val (.int .i64 0), .val (.int .i64 0), .val (.int .i64 0), .val (.int .i64 0), .val (.int .i64 0), .val (.int .i64 0), .val (.int .i64 0), .val (.int .i64 0), .val (.bool false), .val (.bool false), .val (.int .i64 0), .val (.int .i64 0), .val (.int .i64 0), .val (.int .i64 0)])]) (.cons (.refl _) (.cons (.refl _) .nil)) (.cons (.cons (.refl _) (.cons (.refl _) (.cons (.refl _) (.cons (.refl _) (.cons (.refl _) (.cons (.refl _) (.cons (.refl _) (.cons (.refl _) (.cons (.refl _) (.cons (.refl _) (.cons (.refl _) (.cons (.refl _) (.cons (.refl _) (.cons (.refl _) (.cons (.refl _) (.cons (.refl _) (.cons (.refl _) (.cons (.refl _) (.cons (.refl _) (.cons (.refl _) (.cons (.refl _) (.cons (.refl _) (.cons (.refl _) (.cons (.refl _) (.cons (.refl _) .nil))))))))))))))))))))))))) (.cons (.cons (.refl _) (.cons (.refl _) (.cons (.refl _) (.cons (.refl _) (.cons (.refl _) (.cons (.zero _ _) (.cons (.zero _ _) (.cons (.refl _) (.cons (.refl _) (.cons (.refl _) (.cons (.refl _) (.cons (.refl _) (.cons (.refl _) (.cons (.refl _) (.cons (.refl _) (.cons (.refl _) (.cons (.refl _) (.cons (.refl _) (.cons (.refl _) (.cons (.refl _) (.cons (.refl _) (.cons (.refl _) (.cons (.refl _) (.cons (.refl _) (.cons (.refl _) .nil))))))))))))))))))))))))) .nil)) ?_
  refine ok_life_Stop_j1 a0 (S_life_Box.mk (S_api_Spec.mk [] [] [] 0 [] [] [] (S_api_Check.mk [] 0 0 0) 0 0) 0 0 0 0 0 0 false false (S_probe_State.mk 0 0 0 0)) o1 ho1 ?_
  rcases o1 with o1 | o1
  · replace h := sum_l h
    refine To.thenN ?_
    refine Wp.seq ?_
    refine Wp.region hΓ [] [] [] [1, 2] [1, 2] (K' := [(1, .own 1 0), (2, .own 2 0)]) (L' := [(1, 85, (List.set (List.set (E_life_Box o1.1) 18 (.val (.int .i64 (-1)))) 19 (.val (.bool true)))), (2, 85, (E_life_Box o1.2))]) (ob := []) (by kernel_rfl) AllP.nil ?_
    refine To.thenN ?_
    refine Wp.seq ?_
    refine Wp.region hΓ [] [] [] [2, 3] [2] (K' := [(2, .own 2 0), (3, .val (.int .i64 0))]) (L' := [(2, 85, (List.set (List.set (E_life_Box o1.1) 18 (.val (.int .i64 (-1)))) 19 (.val (.bool true))))]) (ob := []) (by kernel_rfl) AllP.nil ?_
    refine To.thenN ?_
    refine Wp.ret ?_
    refine To.keep (kk := [2, 3]) (kl := [2]) (K' := [(2, .own 2 0), (3, .val (.int .i64 0))]) (L' := [(2, 85, (List.set (List.set (E_life_Box o1.1) 18 (.val (.int .i64 (-1)))) 19 (.val (.bool true))))]) (by kernel_rfl) (by kernel_rfl) ?_
    cases h
    exact To.done hΓ (by kernel_rfl)
  · replace h := sum_r h
    refine To.thenR ?_
    refine To.keep (kk := [2, 3]) (kl := [2]) (K' := [(2, .own 2 0), (3, .val (.int .i64 o1.1))]) (L' := [(2, 85, (E_life_Box o1.2))]) (by kernel_rfl) (by kernel_rfl) ?_
    cases h
    exact To.done hΓ (by kernel_rfl)
def store_Store_change__o0_j1 (v2 : Int) (v24 : Int) (b4 : S_api_Call) (b8 : S_life_Box) (b1000000 : S_store_Store) : Sum (Int × S_life_Box × S_store_Store) (Int × Int × S_store_Store) :=
  if (v24 == 6) = true then (lett (life_Start b8 v2) fun r1 =>
  (.inl (r1.2, r1.1, b1000000)))
  else (if (v24 == 7) = true then (lett (life_Stop b8) fun r2 =>
  (.inl (r2.2, r2.1, b1000000)))
  else (if (b8.f_State == 2) = true then ((.inr (0, 13, b1000000)))
  else ((.inr (b4.f_Id, 0, (S_store_Store.mk (mdel b1000000.f_boxes (.inr b4.f_Id)) b1000000.f_nets b1000000.f_vols b1000000.f_last))))))
end Go.Proofs.Ytaecmkldkljioaa.M
