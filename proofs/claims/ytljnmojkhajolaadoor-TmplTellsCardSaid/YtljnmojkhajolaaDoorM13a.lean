/-
  Printed by wip/tools/gen.py: models and walks of functions.
-/
import Derived.Test.YtljnmojkhajolaaDoorRxAnyD
import Derived.Test.YtljnmojkhajolaaDoorRxArgs
import Derived.Test.YtljnmojkhajolaaDoorRxGoto
import Derived.Test.YtljnmojkhajolaaDoorRxNil
import Derived.Test.YtljnmojkhajolaaDoorRxOrd
import Derived.Test.YtljnmojkhajolaaDoorRxEqArr
import Derived.Test.YtljnmojkhajolaaDoorRxEnd
import Derived.Test.YtljnmojkhajolaaDoorSh13
import Derived.Test.YtljnmojkhajolaaDoorBld13
import Derived.Test.YtljnmojkhajolaaDoorProg
namespace Go.Proofs.YtljnmojkhajolaaDoor.M
open Go.RowKit Go.Proofs.YtljnmojkhajolaaDoor.RX
set_option maxRecDepth 100000
def tab : List (Nat × TI) := [
  (3, { agg := false, size := 1, zero := [.int .i64 0], kind := .int .i64, eqs := [] }),
  (9, { agg := false, size := 1, zero := [.string ⟨#[]⟩], kind := .str, eqs := [] }),
  (23, { agg := false, size := 1, zero := [.slice none 0 0], kind := .slice 4 true, elt := 32, eb := 64, ez := [.string ⟨#[]⟩, .string ⟨#[]⟩, .int .i64 0, .slice none 0 0], ek := none, eqs := [] }),
  (24, { agg := false, size := 1, zero := [.int .i64 0], kind := .int .i64, eqs := [] }),
  (29, { agg := false, size := 1, zero := [.slice none 0 0], kind := .slice 4 true, elt := 58, eb := 64, ez := [.string ⟨#[]⟩, .string ⟨#[]⟩, .int .i64 0, .slice none 0 0], ek := none, eqs := [] }),
  (32, { agg := true, size := 4, zero := [.string ⟨#[]⟩, .string ⟨#[]⟩, .int .i64 0, .slice none 0 0], kind := .struct [(0, 1, false), (1, 1, false), (2, 1, false), (3, 1, false)], eqs := [] }),
  (36, { agg := false, size := 1, zero := [.slice none 0 0], kind := .slice 1 false, elt := 9, eb := 16, ez := [.string ⟨#[]⟩], ek := none, eqs := [] }),
  (43, { agg := true, size := 3, zero := [.string ⟨#[]⟩, .int .i64 0, .int .i64 0], kind := .struct [(0, 1, false), (1, 1, false), (2, 1, false)], eqs := [] }),
  (46, { agg := false, size := 1, zero := [.slice none 0 0], kind := .slice 1 false, elt := 5, eb := 1, ez := [.int .u8 0], ek := some .u8, eqs := [] }),
  (48, { agg := true, size := 2, zero := [.pointer none, .slice none 0 0], kind := .struct [(0, 1, false), (1, 1, false)], eqs := [] }),
  (54, { agg := true, size := 8, zero := [.string ⟨#[]⟩, .string ⟨#[]⟩, .string ⟨#[]⟩, .string ⟨#[]⟩, .string ⟨#[]⟩, .string ⟨#[]⟩, .string ⟨#[]⟩, .string ⟨#[]⟩], kind := .array 8 1 false, eqs := [] }),
  (58, { agg := true, size := 4, zero := [.string ⟨#[]⟩, .string ⟨#[]⟩, .int .i64 0, .slice none 0 0], kind := .struct [(0, 1, false), (1, 1, false), (2, 1, false), (3, 1, false)], eqs := [] })]
theorem tabOK : TabOK Tryd.prog tab := ⟨⟨by kernel_rfl, fun h => absurd rfl h⟩, ⟨by kernel_rfl, fun h => absurd rfl h⟩, ⟨by kernel_rfl, fun h => absurd rfl h⟩, ⟨by kernel_rfl, fun h => absurd rfl h⟩, ⟨by kernel_rfl, fun h => absurd rfl h⟩, ⟨by kernel_rfl, fun h => absurd rfl h⟩, ⟨by kernel_rfl, fun h => absurd rfl h⟩, ⟨by kernel_rfl, fun h => absurd rfl h⟩, ⟨by kernel_rfl, fun h => absurd rfl h⟩, ⟨by kernel_rfl, fun h => absurd rfl h⟩, ⟨by kernel_rfl, fun h => absurd rfl h⟩, ⟨by kernel_rfl, fun h => absurd rfl h⟩, trivial⟩
theorem hΓ : ΓOK Tryd.prog (tabΓ tab) := ΓOK.of tabOK
theorem hm : Tryd.prog.follows .mixedOrders = true := by kernel_rfl
structure S_tmpl_Part where
  f_Name : List UInt8
  f_Text : List UInt8
  f_Op : Int
  f_Sub : List (S_tmpl_Part)
def pre_S_tmpl_Part : S_tmpl_Part → List D := fun x => [.str x.f_Name, .str x.f_Text, .val (.int .i64 x.f_Op)]
def kids_S_tmpl_Part : S_tmpl_Part → List (S_tmpl_Part) := fun x => x.f_Sub
def tr_S_tmpl_Part : S_tmpl_Part → List D := treeEnc (S_tmpl_Part.mk [] [] 0 []) pre_S_tmpl_Part kids_S_tmpl_Part
def E_tmpl_Part : S_tmpl_Part → List D := tr_S_tmpl_Part
structure S_tmpl_reader where
  f_s : List UInt8
  f_at : Int
  f_e : Int
theorem good_E_tmpl_Part (l : List (S_tmpl_Part)) : GoodR (.recs (S_tmpl_Part.mk [] [] 0 []) E_tmpl_Part l) := ⟨Nat.le_of_ble_eq_true (by kernel_rfl), fun _ => ⟨rfl, rfl⟩⟩
def tmpl_reader_parts_1__o0__o1 (n : Nat) (h0 : List (UInt8)) (h1 : List (S_tmpl_Part)) : Option ((List (UInt8)) × (List (S_tmpl_Part))) :=
  if (decide ((List.length h0 : Int) > 0)) = true then (if (decide ((List.length h1 + List.length ([(S_tmpl_Part.mk [] [] 0 [])] : List (S_tmpl_Part))) * (64 + 1) ≤ limit)) = true then (if (decide (0 ≤ (List.length h1 : Int) ∧ (List.length h1 : Int) < (List.length (h1 ++ ([(S_tmpl_Part.mk [] [] 0 [])] : List (S_tmpl_Part))) : Int))) = true then (lett ((List.set (h1 ++ ([(S_tmpl_Part.mk [] [] 0 [])] : List (S_tmpl_Part))) (Int.toNat (List.length h1 : Int)) (S_tmpl_Part.mk [] h0 0 [])) : List (S_tmpl_Part)) fun x1 =>
  some ([], x1)) else none) else none)
  else (some (h0, h1))
theorem ok_tmpl_reader_parts_1__o0__o1 (n : Nat) (h0 : List (UInt8)) (h1 : List (S_tmpl_Part)) (r : (List (UInt8)) × (List (S_tmpl_Part))) (h : tmpl_reader_parts_1__o0__o1 n h0 h1 = some r) : CallsB Tryd.prog 25 [.own 1000000 0, .own 1000001 0] [(1000000, 46, [.row 1010000]), (1000001, 23, [.row 1010100]), (1010000, 5, [.rowc false (α := UInt8) 0 e8 h0]), (1010100, 32, [.rowc false (α := S_tmpl_Part) (S_tmpl_Part.mk [] [] 0 []) E_tmpl_Part h1])] (.tup []) [(200, 5, [.rowc false (α := UInt8) 0 e8 r.1]), (300, 32, [.rowc false (α := S_tmpl_Part) (S_tmpl_Part.mk [] [] 0 []) E_tmpl_Part r.2]), (1000000, 46, [.row 200]), (1000001, 23, [.row 300])] := by
  unfold tmpl_reader_parts_1__o0__o1 at h
  refine callsB_of (fn := Tryd.f25) (by kernel_rfl) rfl (by kernel_rfl) (Nat.le_of_ble_eq_true (by kernel_rfl)) fun F0 w0 => ?_
  refine Wp.keep (kk := [0, 1]) (kl := [1000000, 1000001, 1010000, 1010100]) (K' := [(0, .own 1000000 0), (1, .own 1000001 0)]) (L' := [(1000000, 46, [.row 1010000]), (1000001, 23, [.row 1010100]), (1010000, 5, [.rowc false (α := UInt8) 0 e8 h0]), (1010100, 32, [.rowc false (α := S_tmpl_Part) (S_tmpl_Part.mk [] [] 0 []) E_tmpl_Part h1])]) (by kernel_rfl) (by kernel_rfl) ?_
  refine Wp.pre (St.rename 1010000 504000 (by decide) (K' := [(0, .own 1000000 0), (1, .own 1000001 0)]) (L' := [(1000000, 46, [.row 504000]), (1000001, 23, [.row 1010100]), (504000, 5, [.rowc false (α := UInt8) 0 e8 h0]), (1010100, 32, [.rowc false (α := S_tmpl_Part) (S_tmpl_Part.mk [] [] 0 []) E_tmpl_Part h1])]) (by kernel_rfl) (by kernel_rfl) (by kernel_rfl)) ?_
  refine Wp.keep (kk := [0, 1]) (kl := [504000, 1000000, 1000001, 1010100]) (K' := [(0, .own 1000000 0), (1, .own 1000001 0)]) (L' := [(504000, 5, [.rowc false (α := UInt8) 0 e8 h0]), (1000000, 46, [.row 504000]), (1000001, 23, [.row 1010100]), (1010100, 32, [.rowc false (α := S_tmpl_Part) (S_tmpl_Part.mk [] [] 0 []) E_tmpl_Part h1])]) (by kernel_rfl) (by kernel_rfl) ?_
  refine Wp.pre (St.rename 1010100 504060 (by decide) (K' := [(0, .own 1000000 0), (1, .own 1000001 0)]) (L' := [(504000, 5, [.rowc false (α := UInt8) 0 e8 h0]), (1000000, 46, [.row 504000]), (1000001, 23, [.row 504060]), (504060, 32, [.rowc false (α := S_tmpl_Part) (S_tmpl_Part.mk [] [] 0 []) E_tmpl_Part h1])]) (by kernel_rfl) (by kernel_rfl) (by kernel_rfl)) ?_
  refine Wp.keep (kk := [0, 1]) (kl := [504000, 504060, 1000000, 1000001]) (K' := [(0, .own 1000000 0), (1, .own 1000001 0)]) (L' := [(504000, 5, [.rowc false (α := UInt8) 0 e8 h0]), (504060, 32, [.rowc false (α := S_tmpl_Part) (S_tmpl_Part.mk [] [] 0 []) E_tmpl_Part h1]), (1000000, 46, [.row 504000]), (1000001, 23, [.row 504060])]) (by kernel_rfl) (by kernel_rfl) ?_
  refine Wp.seq ?_
  refine Wp.region hΓ [] [] [] [0, 1, 4] [504000, 504060, 1000000, 1000001] (K' := [(0, .own 1000000 0), (1, .own 1000001 0), (4, .val (.bool (decide ((List.length h0 : Int) > 0))))]) (L' := [(504000, 5, [.rowc false (α := UInt8) 0 e8 h0]), (504060, 32, [.rowc false (α := S_tmpl_Part) (S_tmpl_Part.mk [] [] 0 []) E_tmpl_Part h1]), (1000000, 46, [.row 504000]), (1000001, 23, [.row 504060])]) (ob := []) (by kernel_rfl) AllP.nil ?_
  refine To.thenN ?_
  refine Wp.cond (b := (decide ((List.length h0 : Int) > 0))) (by kernel_rfl) (fun hb => ?_) (fun hb => ?_)
  · replace h := if_t hb h
    refine Wp.seq ?_
    obtain ⟨hc2, h⟩ := chk_of h
    obtain ⟨hc3, h⟩ := chk_of h
    obtain ⟨x1, hx1, h⟩ := lett_of h
    refine Wp.regionO hm hΓ [] [(2, .str h0), (5, .recs (α := S_tmpl_Part) (S_tmpl_Part.mk [] [] 0 []) E_tmpl_Part ([(S_tmpl_Part.mk [] [] 0 [])])), (6, .recs (α := S_tmpl_Part) (S_tmpl_Part.mk [] [] 0 []) E_tmpl_Part (h1 ++ ([(S_tmpl_Part.mk [] [] 0 [])] : List (S_tmpl_Part)))), (8, .recs (α := S_tmpl_Part) (S_tmpl_Part.mk [] [] 0 []) E_tmpl_Part (List.set (h1 ++ ([(S_tmpl_Part.mk [] [] 0 [])] : List (S_tmpl_Part))) (Int.toNat (List.length h1 : Int)) (S_tmpl_Part.mk [] h0 0 [])))] [] [0, 1, 4, 5, 6, 7, 8, 9, 10, 11, 12] [10, 11, 504000, 504060, 1000000, 1000001] [0] [11, 504000, 1000000, 1000001] (K' := [(0, .own 1000000 0)]) (L' := [(11, 32, [.rowc false (α := S_tmpl_Part) (S_tmpl_Part.mk [] [] 0 []) E_tmpl_Part (List.set (h1 ++ ([(S_tmpl_Part.mk [] [] 0 [])] : List (S_tmpl_Part))) (Int.toNat (List.length h1 : Int)) (S_tmpl_Part.mk [] h0 0 []))]), (504000, 5, [.rowc false (α := UInt8) 0 e8 h0]), (1000000, 46, [.row 504000]), (1000001, 23, [.row 11])]) (ob := [(true = true → StrOb (List.flatMap e8 h0) (.str h0)), (MkOb 4 [.str [], .str [], .val (.int .i64 0), .val (.slice none 0 0)] 1 (.recs (α := S_tmpl_Part) (S_tmpl_Part.mk [] [] 0 []) E_tmpl_Part ([(S_tmpl_Part.mk [] [] 0 [])])) ∧ GoodR (.recs (α := S_tmpl_Part) (S_tmpl_Part.mk [] [] 0 []) E_tmpl_Part ([(S_tmpl_Part.mk [] [] 0 [])]))), (decide ((List.length h1 + List.length ([(S_tmpl_Part.mk [] [] 0 [])] : List (S_tmpl_Part))) * (64 + 1) ≤ limit)) = true, (AppOb (S_tmpl_Part.mk [] [] 0 []) E_tmpl_Part h1 (List.flatMap E_tmpl_Part ([(S_tmpl_Part.mk [] [] 0 [])] : List (S_tmpl_Part))) (List.length ([(S_tmpl_Part.mk [] [] 0 [])] : List (S_tmpl_Part))) (.recs (α := S_tmpl_Part) (S_tmpl_Part.mk [] [] 0 []) E_tmpl_Part (h1 ++ ([(S_tmpl_Part.mk [] [] 0 [])] : List (S_tmpl_Part)))) ∧ GoodR (.recs (α := S_tmpl_Part) (S_tmpl_Part.mk [] [] 0 []) E_tmpl_Part (h1 ++ ([(S_tmpl_Part.mk [] [] 0 [])] : List (S_tmpl_Part))))), (decide (0 ≤ (List.length h1 : Int) ∧ (List.length h1 : Int) < (List.length (h1 ++ ([(S_tmpl_Part.mk [] [] 0 [])] : List (S_tmpl_Part))) : Int))) = true, (decide (0 ≤ (List.length h1 : Int) ∧ (List.length h1 : Int) < (List.length (h1 ++ ([(S_tmpl_Part.mk [] [] 0 [])] : List (S_tmpl_Part))) : Int))) = true, UpdOb (S_tmpl_Part.mk [] [] 0 []) E_tmpl_Part (h1 ++ ([(S_tmpl_Part.mk [] [] 0 [])] : List (S_tmpl_Part))) (List.length h1 : Int) 0 [.str [], .str h0, .val (.int .i64 0), .val (.slice none 0 0)] (.recs (α := S_tmpl_Part) (S_tmpl_Part.mk [] [] 0 []) E_tmpl_Part (List.set (h1 ++ ([(S_tmpl_Part.mk [] [] 0 [])] : List (S_tmpl_Part))) (Int.toNat (List.length h1 : Int)) (S_tmpl_Part.mk [] h0 0 [])))]) (by kernel_rfl) (by kernel_rfl) (AllP.cons (fun _ => strOb (flat8 _)) (AllP.cons (mkObW (weaks_eq (ds := [.str [], .str [], .val (.int .i64 0), .val (.slice none 0 0)]) (es := [.str [], .str [], .val (.int .i64 0), .tree (α := S_tmpl_Part) (S_tmpl_Part.mk [] [] 0 []) pre_S_tmpl_Part kids_S_tmpl_Part []]) (by kernel_rfl) (.cons (.refl _) (.cons (.refl _) (.cons (.refl _) (.cons (.zeroT _ _ _) .nil)))) (by kernel_rfl)) rfl (by kernel_rfl) (good_E_tmpl_Part _)) (AllP.cons hc2 (AllP.cons (appOb rfl rfl (good_E_tmpl_Part _)) (AllP.cons hc3 (AllP.cons hc3 (AllP.cons (updObW (weaks_eq (ds := [.str [], .str h0, .val (.int .i64 0), .val (.slice none 0 0)]) (es := [.str [], .str h0, .val (.int .i64 0), .tree (α := S_tmpl_Part) (S_tmpl_Part.mk [] [] 0 []) pre_S_tmpl_Part kids_S_tmpl_Part []]) (by kernel_rfl) (.cons (.refl _) (.cons (.refl _) (.cons (.refl _) (.cons (.zeroT _ _ _) .nil)))) (by kernel_rfl))) AllP.nil))))))) ?_
    refine To.eq (K' := [(0, .own 1000000 0)]) (L' := [(11, 32, [.rowc false (α := S_tmpl_Part) (S_tmpl_Part.mk [] [] 0 []) E_tmpl_Part x1]), (504000, 5, [.rowc false (α := UInt8) 0 e8 h0]), (1000000, 46, [.row 504000]), (1000001, 23, [.row 11])]) (by cases hx1; rfl) (by cases hx1; rfl) ?_
    refine To.thenN ?_
    refine Wp.region hΓ [] [] [] [] [11, 1000000, 1000001] (K' := []) (L' := [(11, 32, [.rowc false (α := S_tmpl_Part) (S_tmpl_Part.mk [] [] 0 []) E_tmpl_Part x1]), (1000000, 46, [.val (.slice none 0 0)]), (1000001, 23, [.row 11])]) (ob := []) (by kernel_rfl) AllP.nil ?_
    refine To.fin ?_
    refine To.keep (kk := []) (kl := [11, 1000000, 1000001]) (K' := []) (L' := [(11, 32, [.rowc false (α := S_tmpl_Part) (S_tmpl_Part.mk [] [] 0 []) E_tmpl_Part x1]), (1000000, 46, [.val (.slice none 0 0)]), (1000001, 23, [.row 11])]) (by kernel_rfl) (by kernel_rfl) ?_
    refine To.pre (St.vacantB 1000000 0 504000 5 (good8 _) (by decide) (by kernel_rfl) (L' := [(11, 32, [.rowc false (α := S_tmpl_Part) (S_tmpl_Part.mk [] [] 0 []) E_tmpl_Part x1]), (1000000, 46, [.row 504000]), (1000001, 23, [.row 11])]) (by kernel_rfl)) ?_
    refine To.keep (kk := []) (kl := [11, 504000, 1000000, 1000001]) (K' := []) (L' := [(11, 32, [.rowc false (α := S_tmpl_Part) (S_tmpl_Part.mk [] [] 0 []) E_tmpl_Part x1]), (504000, 5, [.rowc false (α := UInt8) 0 e8 []]), (1000000, 46, [.row 504000]), (1000001, 23, [.row 11])]) (by kernel_rfl) (by kernel_rfl) ?_
    refine To.pre (St.rename 504000 200 (by decide) (K' := []) (L' := [(11, 32, [.rowc false (α := S_tmpl_Part) (S_tmpl_Part.mk [] [] 0 []) E_tmpl_Part x1]), (200, 5, [.rowc false (α := UInt8) 0 e8 []]), (1000000, 46, [.row 200]), (1000001, 23, [.row 11])]) (by kernel_rfl) (by kernel_rfl) (by kernel_rfl)) ?_
    refine To.keep (kk := []) (kl := [11, 200, 1000000, 1000001]) (K' := []) (L' := [(11, 32, [.rowc false (α := S_tmpl_Part) (S_tmpl_Part.mk [] [] 0 []) E_tmpl_Part x1]), (200, 5, [.rowc false (α := UInt8) 0 e8 []]), (1000000, 46, [.row 200]), (1000001, 23, [.row 11])]) (by kernel_rfl) (by kernel_rfl) ?_
    refine To.pre (St.rename 11 300 (by decide) (K' := []) (L' := [(300, 32, [.rowc false (α := S_tmpl_Part) (S_tmpl_Part.mk [] [] 0 []) E_tmpl_Part x1]), (200, 5, [.rowc false (α := UInt8) 0 e8 []]), (1000000, 46, [.row 200]), (1000001, 23, [.row 300])]) (by kernel_rfl) (by kernel_rfl) (by kernel_rfl)) ?_
    refine To.keep (kk := []) (kl := [200, 300, 1000000, 1000001]) (K' := []) (L' := [(200, 5, [.rowc false (α := UInt8) 0 e8 []]), (300, 32, [.rowc false (α := S_tmpl_Part) (S_tmpl_Part.mk [] [] 0 []) E_tmpl_Part x1]), (1000000, 46, [.row 200]), (1000001, 23, [.row 300])]) (by kernel_rfl) (by kernel_rfl) ?_
    cases h
    exact To.doneB hΓ [200, 300, 1000000, 1000001] (by kernel_rfl) (by kernel_rfl)
  · replace h := if_f hb h
    refine Wp.skip ?_
    refine To.fin ?_
    refine To.keep (kk := []) (kl := [504000, 504060, 1000000, 1000001]) (K' := []) (L' := [(504000, 5, [.rowc false (α := UInt8) 0 e8 h0]), (504060, 32, [.rowc false (α := S_tmpl_Part) (S_tmpl_Part.mk [] [] 0 []) E_tmpl_Part h1]), (1000000, 46, [.row 504000]), (1000001, 23, [.row 504060])]) (by kernel_rfl) (by kernel_rfl) ?_
    refine To.pre (St.rename 504000 200 (by decide) (K' := []) (L' := [(200, 5, [.rowc false (α := UInt8) 0 e8 h0]), (504060, 32, [.rowc false (α := S_tmpl_Part) (S_tmpl_Part.mk [] [] 0 []) E_tmpl_Part h1]), (1000000, 46, [.row 200]), (1000001, 23, [.row 504060])]) (by kernel_rfl) (by kernel_rfl) (by kernel_rfl)) ?_
    refine To.keep (kk := []) (kl := [200, 504060, 1000000, 1000001]) (K' := []) (L' := [(200, 5, [.rowc false (α := UInt8) 0 e8 h0]), (504060, 32, [.rowc false (α := S_tmpl_Part) (S_tmpl_Part.mk [] [] 0 []) E_tmpl_Part h1]), (1000000, 46, [.row 200]), (1000001, 23, [.row 504060])]) (by kernel_rfl) (by kernel_rfl) ?_
    refine To.pre (St.rename 504060 300 (by decide) (K' := []) (L' := [(200, 5, [.rowc false (α := UInt8) 0 e8 h0]), (300, 32, [.rowc false (α := S_tmpl_Part) (S_tmpl_Part.mk [] [] 0 []) E_tmpl_Part h1]), (1000000, 46, [.row 200]), (1000001, 23, [.row 300])]) (by kernel_rfl) (by kernel_rfl) (by kernel_rfl)) ?_
    refine To.keep (kk := []) (kl := [200, 300, 1000000, 1000001]) (K' := []) (L' := [(200, 5, [.rowc false (α := UInt8) 0 e8 h0]), (300, 32, [.rowc false (α := S_tmpl_Part) (S_tmpl_Part.mk [] [] 0 []) E_tmpl_Part h1]), (1000000, 46, [.row 200]), (1000001, 23, [.row 300])]) (by kernel_rfl) (by kernel_rfl) ?_
    cases h
    exact To.doneB hΓ [200, 300, 1000000, 1000001] (by kernel_rfl) (by kernel_rfl)
def tmpl_reader_deeper__o0_j1 (v6 : Bool) (b1000000 : S_tmpl_reader) : S_tmpl_reader :=
  if v6 = true then ((S_tmpl_reader.mk b1000000.f_s b1000000.f_at 9))
  else b1000000
theorem ok_tmpl_reader_deeper__o0_j1 (v6 : Bool) (b1000000 : S_tmpl_reader) (o : S_tmpl_reader) (h : tmpl_reader_deeper__o0_j1 v6 b1000000 = o) {F0 : Fz} {w0 : Pt Tryd.prog} {Q : Exit → Act → World → Prop} (hQ : To 15 F0 w0 [(0, .own 1000000 0)] [(1000000, 43, [.str o.f_s, .val (.int .i64 o.f_at), .val (.int .i64 o.f_e)])] .normal Q) : Wp Tryd.prog 15 F0 w0 [(0, .own 1000000 0), (6, .val (.bool v6))] [(1000000, 43, [.str b1000000.f_s, .val (.int .i64 b1000000.f_at), .val (.int .i64 b1000000.f_e)])] (cB (cA (cB (cF Tryd.f34)))) Q := by
  unfold tmpl_reader_deeper__o0_j1 at h
  refine Wp.cond (b := v6) (by kernel_rfl) (fun hb => ?_) (fun hb => ?_)
  · replace h := if_t hb h
    refine Wp.region hΓ [] [] [] [0] [1000000] (K' := [(0, .own 1000000 0)]) (L' := [(1000000, 43, [.str b1000000.f_s, .val (.int .i64 b1000000.f_at), .val (.int .i64 9)])]) (ob := []) (by kernel_rfl) AllP.nil ?_
    refine To.keep (kk := [0]) (kl := [1000000]) (K' := [(0, .own 1000000 0)]) (L' := [(1000000, 43, [.str b1000000.f_s, .val (.int .i64 b1000000.f_at), .val (.int .i64 9)])]) (by kernel_rfl) (by kernel_rfl) ?_
    cases h
    exact hQ
  · replace h := if_f hb h
    refine Wp.skip ?_
    refine To.keep (kk := [0]) (kl := [1000000]) (K' := [(0, .own 1000000 0)]) (L' := [(1000000, 43, [.str b1000000.f_s, .val (.int .i64 b1000000.f_at), .val (.int .i64 b1000000.f_e)])]) (by kernel_rfl) (by kernel_rfl) ?_
    cases h
    exact hQ
def tmpl_reader_deeper__o0 (a1 : Int) (h0 : S_tmpl_reader) : Bool × S_tmpl_reader :=
  lett (tmpl_reader_deeper__o0_j1 (decide (a1 > 8)) h0) fun o1 =>
  ((o1.f_e != 0), o1)
theorem ok_tmpl_reader_deeper__o0 (a1 : Int) (h0 : S_tmpl_reader) (r : Bool × S_tmpl_reader) (h : tmpl_reader_deeper__o0 a1 h0 = r) : CallsB Tryd.prog 34 [.own 1000000 0, .val (.int .i64 a1)] [(1000000, 43, [.str h0.f_s, .val (.int .i64 h0.f_at), .val (.int .i64 h0.f_e)])] (.val (.bool r.1)) [(1000000, 43, [.str r.2.f_s, .val (.int .i64 r.2.f_at), .val (.int .i64 r.2.f_e)])] := by
  unfold tmpl_reader_deeper__o0 at h
  refine callsB_of (fn := Tryd.f34) (by kernel_rfl) rfl (by kernel_rfl) (Nat.le_of_ble_eq_true (by kernel_rfl)) fun F0 w0 => ?_
  refine Wp.keep (kk := [0, 1]) (kl := [1000000]) (K' := [(0, .own 1000000 0), (1, .val (.int .i64 a1))]) (L' := [(1000000, 43, [.str h0.f_s, .val (.int .i64 h0.f_at), .val (.int .i64 h0.f_e)])]) (by kernel_rfl) (by kernel_rfl) ?_
  refine Wp.seq ?_
  refine Wp.region hΓ [] [] [] [0, 1] [1000000] (K' := [(0, .own 1000000 0), (1, .val (.int .i64 a1))]) (L' := [(1000000, 43, [.str h0.f_s, .val (.int .i64 h0.f_at), .val (.int .i64 h0.f_e)])]) (ob := []) (by kernel_rfl) AllP.nil ?_
  refine To.thenN ?_
  refine Wp.seq ?_
  refine Wp.seq ?_
  refine Wp.region hΓ [] [] [] [0, 6] [1000000] (K' := [(0, .own 1000000 0), (6, .val (.bool (decide (a1 > 8))))]) (L' := [(1000000, 43, [.str h0.f_s, .val (.int .i64 h0.f_at), .val (.int .i64 h0.f_e)])]) (ob := []) (by kernel_rfl) AllP.nil ?_
  refine To.thenN ?_
  obtain ⟨o1, ho1, h⟩ := lett_of h
  refine Wp.keep (kk := [0, 6]) (kl := [1000000]) (K' := [(0, .own 1000000 0), (6, .val (.bool (decide (a1 > 8))))]) (L' := [(1000000, 43, [.str h0.f_s, .val (.int .i64 h0.f_at), .val (.int .i64 h0.f_e)])]) (by kernel_rfl) (by kernel_rfl) ?_
  refine ok_tmpl_reader_deeper__o0_j1 (decide (a1 > 8)) h0 o1 ho1 ?_
  refine To.thenN ?_
  refine Wp.seq ?_
  refine Wp.region hΓ [] [] [] [4] [1000000] (K' := [(4, .val (.bool (o1.f_e != 0)))]) (L' := [(1000000, 43, [.str o1.f_s, .val (.int .i64 o1.f_at), .val (.int .i64 o1.f_e)])]) (ob := []) (by kernel_rfl) AllP.nil ?_
  refine To.thenN ?_
  refine Wp.ret ?_
  refine To.keep (kk := [4]) (kl := [1000000]) (K' := [(4, .val (.bool (o1.f_e != 0)))]) (L' := [(1000000, 43, [.str o1.f_s, .val (.int .i64 o1.f_at), .val (.int .i64 o1.f_e)])]) (by kernel_rfl) (by kernel_rfl) ?_
  cases h
  exact To.doneB hΓ [1000000] (by kernel_rfl) (by kernel_rfl)
def tmpl_word (a0 : Int) : Bool :=
  lett ((bif (bif (bif (a0 == 95) then true else (bif (decide (a0 ≥ 48)) then (decide (a0 ≤ 57)) else false)) then true else (bif (decide (a0 ≥ 97)) then (decide (a0 ≤ 122)) else false)) then true else (bif (decide (a0 ≥ 65)) then (decide (a0 ≤ 90)) else false)) : Bool) fun x1 =>
  x1
theorem ok_tmpl_word (a0 : Int) (r : Bool) (h : tmpl_word a0 = r) : CallsX Tryd.prog 45 [.val (.int .u8 a0)] (.val (.bool r)) := by
  unfold tmpl_word at h
  refine callsX_of (fn := Tryd.f45) (by kernel_rfl) rfl (by kernel_rfl) (Nat.le_of_ble_eq_true (by kernel_rfl)) fun F0 w0 _ => ?_
  refine Wp.keep (kk := [0]) (kl := []) (K' := [(0, .val (.int .u8 a0))]) (L' := []) (by kernel_rfl) (by kernel_rfl) ?_
  refine Wp.seq ?_
  refine Wp.region hΓ [] [] [] [0] [] (K' := [(0, .val (.int .u8 a0))]) (L' := []) (ob := []) (by kernel_rfl) AllP.nil ?_
  refine To.thenN ?_
  refine Wp.seq ?_
  obtain ⟨x1, hx1, h⟩ := lett_of h
  refine Wp.region hΓ [] [] [] [2] [] (K' := [(2, .val (.bool (bif (bif (bif (a0 == 95) then true else (bif (decide (a0 ≥ 48)) then (decide (a0 ≤ 57)) else false)) then true else (bif (decide (a0 ≥ 97)) then (decide (a0 ≤ 122)) else false)) then true else (bif (decide (a0 ≥ 65)) then (decide (a0 ≤ 90)) else false))))]) (L' := []) (ob := []) (by kernel_rfl) AllP.nil ?_
  refine To.eq (K' := [(2, .val (.bool x1))]) (L' := []) (by cases hx1; rfl) (by cases hx1; rfl) ?_
  refine To.thenN ?_
  refine Wp.ret ?_
  refine To.keep (kk := [2]) (kl := []) (K' := [(2, .val (.bool x1))]) (L' := []) (by kernel_rfl) (by kernel_rfl) ?_
  cases h
  exact To.done hΓ (by kernel_rfl)
def name_small (a0 : Int) : Bool :=
  (bif (decide (a0 ≥ 97)) then (decide (a0 ≤ 122)) else false)
theorem ok_name_small (a0 : Int) (r : Bool) (h : name_small a0 = r) : CallsX Tryd.prog 79 [.val (.int .u8 a0)] (.val (.bool r)) := by
  unfold name_small at h
  refine callsX_of (fn := Tryd.f79) (by kernel_rfl) rfl (by kernel_rfl) (Nat.le_of_ble_eq_true (by kernel_rfl)) fun F0 w0 _ => ?_
  refine Wp.keep (kk := [0]) (kl := []) (K' := [(0, .val (.int .u8 a0))]) (L' := []) (by kernel_rfl) (by kernel_rfl) ?_
  refine Wp.seq ?_
  refine Wp.region hΓ [] [] [] [0] [] (K' := [(0, .val (.int .u8 a0))]) (L' := []) (ob := []) (by kernel_rfl) AllP.nil ?_
  refine To.thenN ?_
  refine Wp.seq ?_
  refine Wp.region hΓ [] [] [] [2] [] (K' := [(2, .val (.bool (bif (decide (a0 ≥ 97)) then (decide (a0 ≤ 122)) else false)))]) (L' := []) (ob := []) (by kernel_rfl) AllP.nil ?_
  refine To.thenN ?_
  refine Wp.ret ?_
  refine To.keep (kk := [2]) (kl := []) (K' := [(2, .val (.bool (bif (decide (a0 ≥ 97)) then (decide (a0 ≤ 122)) else false)))]) (L' := []) (by kernel_rfl) (by kernel_rfl) ?_
  cases h
  exact To.done hΓ (by kernel_rfl)
def name_letter (a0 : Int) : Bool :=
  (bif (name_small a0) then true else (bif (decide (a0 ≥ 65)) then (decide (a0 ≤ 90)) else false))
theorem ok_name_letter (a0 : Int) (r : Bool) (h : name_letter a0 = r) : CallsX Tryd.prog 65 [.val (.int .u8 a0)] (.val (.bool r)) := by
  unfold name_letter at h
  refine callsX_of (fn := Tryd.f65) (by kernel_rfl) rfl (by kernel_rfl) (Nat.le_of_ble_eq_true (by kernel_rfl)) fun F0 w0 _ => ?_
  refine Wp.keep (kk := [0]) (kl := []) (K' := [(0, .val (.int .u8 a0))]) (L' := []) (by kernel_rfl) (by kernel_rfl) ?_
  refine Wp.seq ?_
  refine Wp.region hΓ [] [] [] [0] [] (K' := [(0, .val (.int .u8 a0))]) (L' := []) (ob := []) (by kernel_rfl) AllP.nil ?_
  refine To.thenN ?_
  refine Wp.seq ?_
  refine Wp.region hΓ [] [(1, .val (.bool (name_small a0)))] [] [2] [] (K' := [(2, .val (.bool (bif (name_small a0) then true else (bif (decide (a0 ≥ 65)) then (decide (a0 ≤ 90)) else false))))]) (L' := []) (ob := [(true = true → CX Tryd.prog 79 [.val (.int .u8 a0)] (.val (.bool (name_small a0))))]) (by kernel_rfl) (AllP.cons (fun _ => cx (ok_name_small a0 _ rfl)) AllP.nil) ?_
  refine To.thenN ?_
  refine Wp.ret ?_
  refine To.keep (kk := [2]) (kl := []) (K' := [(2, .val (.bool (bif (name_small a0) then true else (bif (decide (a0 ≥ 65)) then (decide (a0 ≤ 90)) else false))))]) (L' := []) (by kernel_rfl) (by kernel_rfl) ?_
  cases h
  exact To.done hΓ (by kernel_rfl)
def name_Variable_1 (a0 : Int) : Bool :=
  (bif (name_letter a0) then true else (a0 == 95))
theorem ok_name_Variable_1 (a0 : Int) (r : Bool) (h : name_Variable_1 a0 = r) : CallsX Tryd.prog 64 [.val (.int .u8 a0)] (.val (.bool r)) := by
  unfold name_Variable_1 at h
  refine callsX_of (fn := Tryd.f64) (by kernel_rfl) rfl (by kernel_rfl) (Nat.le_of_ble_eq_true (by kernel_rfl)) fun F0 w0 _ => ?_
  refine Wp.keep (kk := [0]) (kl := []) (K' := [(0, .val (.int .u8 a0))]) (L' := []) (by kernel_rfl) (by kernel_rfl) ?_
  refine Wp.seq ?_
  refine Wp.region hΓ [] [] [] [0] [] (K' := [(0, .val (.int .u8 a0))]) (L' := []) (ob := []) (by kernel_rfl) AllP.nil ?_
  refine To.thenN ?_
  refine Wp.seq ?_
  refine Wp.region hΓ [] [(1, .val (.bool (name_letter a0)))] [] [2] [] (K' := [(2, .val (.bool (bif (name_letter a0) then true else (a0 == 95))))]) (L' := []) (ob := [(true = true → CX Tryd.prog 65 [.val (.int .u8 a0)] (.val (.bool (name_letter a0))))]) (by kernel_rfl) (AllP.cons (fun _ => cx (ok_name_letter a0 _ rfl)) AllP.nil) ?_
  refine To.thenN ?_
  refine Wp.ret ?_
  refine To.keep (kk := [2]) (kl := []) (K' := [(2, .val (.bool (bif (name_letter a0) then true else (a0 == 95))))]) (L' := []) (by kernel_rfl) (by kernel_rfl) ?_
  cases h
  exact To.done hΓ (by kernel_rfl)
def name_number (a0 : Int) : Bool :=
  (bif (decide (a0 ≥ 48)) then (decide (a0 ≤ 57)) else false)
theorem ok_name_number (a0 : Int) (r : Bool) (h : name_number a0 = r) : CallsX Tryd.prog 67 [.val (.int .u8 a0)] (.val (.bool r)) := by
  unfold name_number at h
  refine callsX_of (fn := Tryd.f67) (by kernel_rfl) rfl (by kernel_rfl) (Nat.le_of_ble_eq_true (by kernel_rfl)) fun F0 w0 _ => ?_
  refine Wp.keep (kk := [0]) (kl := []) (K' := [(0, .val (.int .u8 a0))]) (L' := []) (by kernel_rfl) (by kernel_rfl) ?_
  refine Wp.seq ?_
  refine Wp.region hΓ [] [] [] [0] [] (K' := [(0, .val (.int .u8 a0))]) (L' := []) (ob := []) (by kernel_rfl) AllP.nil ?_
  refine To.thenN ?_
  refine Wp.seq ?_
  refine Wp.region hΓ [] [] [] [2] [] (K' := [(2, .val (.bool (bif (decide (a0 ≥ 48)) then (decide (a0 ≤ 57)) else false)))]) (L' := []) (ob := []) (by kernel_rfl) AllP.nil ?_
  refine To.thenN ?_
  refine Wp.ret ?_
  refine To.keep (kk := [2]) (kl := []) (K' := [(2, .val (.bool (bif (decide (a0 ≥ 48)) then (decide (a0 ≤ 57)) else false)))]) (L' := []) (by kernel_rfl) (by kernel_rfl) ?_
  cases h
  exact To.done hΓ (by kernel_rfl)
def name_Variable_2 (a0 : Int) : Bool :=
  (bif (bif (name_letter a0) then true else (name_number a0)) then true else (a0 == 95))
theorem ok_name_Variable_2 (a0 : Int) (r : Bool) (h : name_Variable_2 a0 = r) : CallsX Tryd.prog 66 [.val (.int .u8 a0)] (.val (.bool r)) := by
  unfold name_Variable_2 at h
  refine callsX_of (fn := Tryd.f66) (by kernel_rfl) rfl (by kernel_rfl) (Nat.le_of_ble_eq_true (by kernel_rfl)) fun F0 w0 _ => ?_
  refine Wp.keep (kk := [0]) (kl := []) (K' := [(0, .val (.int .u8 a0))]) (L' := []) (by kernel_rfl) (by kernel_rfl) ?_
  refine Wp.seq ?_
  refine Wp.region hΓ [] [] [] [0] [] (K' := [(0, .val (.int .u8 a0))]) (L' := []) (ob := []) (by kernel_rfl) AllP.nil ?_
  refine To.thenN ?_
  refine Wp.seq ?_
  refine Wp.region hΓ [] [(1, .val (.bool (name_letter a0))), (4, .val (.bool (name_number a0)))] [] [2] [] (K' := [(2, .val (.bool (bif (bif (name_letter a0) then true else (name_number a0)) then true else (a0 == 95))))]) (L' := []) (ob := [(true = true → CX Tryd.prog 65 [.val (.int .u8 a0)] (.val (.bool (name_letter a0)))), (((name_letter a0) == false) = true → CX Tryd.prog 67 [.val (.int .u8 a0)] (.val (.bool (name_number a0))))]) (by kernel_rfl) (AllP.cons (fun _ => cx (ok_name_letter a0 _ rfl)) (AllP.cons (fun _ => cx (ok_name_number a0 _ rfl)) AllP.nil)) ?_
  refine To.thenN ?_
  refine Wp.ret ?_
  refine To.keep (kk := [2]) (kl := []) (K' := [(2, .val (.bool (bif (bif (name_letter a0) then true else (name_number a0)) then true else (a0 == 95))))]) (L' := []) (by kernel_rfl) (by kernel_rfl) ?_
  cases h
  exact To.done hΓ (by kernel_rfl)
def name_of__name_Variable_1__name_Variable_2_l1 (n : Nat) (v0 : List UInt8) : Nat → Int → Option (Sum (Unit) (Bool))
  | 0, _ => none
  | k + 1, v7 => if (decide (v7 < (List.length v0 : Int))) = true then (if (decide (0 ≤ v7 ∧ v7 < (List.length v0 : Int))) = true then (if (!(name_Variable_2 (((v0)[Int.toNat v7]?.getD 0).toNat : Int))) = true then (some (.inr false))
  else (name_of__name_Variable_1__name_Variable_2_l1 n v0 k (IntKind.wrap .i64 (v7 + 1)))) else none)
  else (some (.inl ()))
theorem ok_name_of__name_Variable_1__name_Variable_2_l1 (n : Nat) (v0 : List UInt8) {F0 : Fz} {w0 : Pt Tryd.prog} {Q : Exit → Act → World → Prop} (k : Nat) : ∀ (v7 : Int) (o : Sum (Unit) (Bool)), name_of__name_Variable_1__name_Variable_2_l1 n v0 k v7 = some o → (Sum.elim (fun s => To 35 F0 w0 [] [] (.exit 0) Q) (fun s => To 35 F0 w0 [(6, .val (.bool s))] [] .ret Q)) o → WL Tryd.prog 35 F0 w0 [(0, .str v0), (2, .fn 66 []), (7, .val (.int .i64 v7))] [] (cI (cI (cB (cA (cB (cB (cF Tryd.f63))))))) Q := by
  induction k with
  | zero => intro v7 o h; cases h
  | succ k ih =>
    intro v7 o h hQ
    rw [name_of__name_Variable_1__name_Variable_2_l1] at h
    refine WL.round ?_
    refine Wp.seq ?_
    refine Wp.seq ?_
    refine Wp.region hΓ [] [] [] [0, 2, 7, 26] [] (K' := [(0, .str v0), (2, .fn 66 []), (7, .val (.int .i64 v7)), (26, .val (.bool (decide (v7 < (List.length v0 : Int)))))]) (L' := []) (ob := []) (by kernel_rfl) AllP.nil ?_
    refine To.thenN ?_
    refine Wp.cond (b := (decide (v7 < (List.length v0 : Int)))) (by kernel_rfl) (fun hb => ?_) (fun hb => ?_)
    · replace h := if_t hb h
      refine Wp.skip ?_
      refine To.thenN ?_
      refine Wp.seq ?_
      refine Wp.block ?_
      refine Wp.seq ?_
      obtain ⟨hc2, h⟩ := chk_of h
      refine Wp.region hΓ [] [(4, .val (.bool (name_Variable_2 (((v0)[Int.toNat v7]?.getD 0).toNat : Int))))] [] [0, 2, 7, 34] [] (K' := [(0, .str v0), (2, .fn 66 []), (7, .val (.int .i64 v7)), (34, .val (.bool (!(name_Variable_2 (((v0)[Int.toNat v7]?.getD 0).toNat : Int)))))]) (L' := []) (ob := [(decide (0 ≤ v7 ∧ v7 < (List.length v0 : Int))) = true, (true = true → CX Tryd.prog 66 [.val (.int .u8 (((v0)[Int.toNat v7]?.getD 0).toNat : Int))] (.val (.bool (name_Variable_2 (((v0)[Int.toNat v7]?.getD 0).toNat : Int)))))]) (by kernel_rfl) (AllP.cons hc2 (AllP.cons (fun _ => cx (ok_name_Variable_2 (((v0)[Int.toNat v7]?.getD 0).toNat : Int) _ rfl)) AllP.nil)) ?_
      refine To.thenN ?_
      refine Wp.cond (b := (!(name_Variable_2 (((v0)[Int.toNat v7]?.getD 0).toNat : Int)))) (by kernel_rfl) (fun hb => ?_) (fun hb => ?_)
      · replace h := if_t hb h
        refine Wp.seq ?_
        refine Wp.region hΓ [] [] [] [6] [] (K' := [(6, .val (.bool false))]) (L' := []) (ob := []) (by kernel_rfl) AllP.nil ?_
        refine To.thenN ?_
        refine Wp.ret ?_
        refine To.blockR ?_
        refine To.thenR ?_
        refine To.thenR ?_
        refine To.keep (kk := [6]) (kl := []) (K' := [(6, .val (.bool false))]) (L' := []) (by kernel_rfl) (by kernel_rfl) ?_
        cases h
        exact hQ
      · replace h := if_f hb h
        refine Wp.skip ?_
        refine To.blockN ?_
        refine To.thenN ?_
        refine Wp.region hΓ [] [] [] [0, 2, 7] [] (K' := [(0, .str v0), (2, .fn 66 []), (7, .val (.int .i64 (IntKind.wrap .i64 (v7 + 1))))]) (L' := []) (ob := []) (by kernel_rfl) AllP.nil ?_
        refine To.keep (kk := [0, 2, 7]) (kl := []) (K' := [(0, .str v0), (2, .fn 66 []), (7, .val (.int .i64 (IntKind.wrap .i64 (v7 + 1))))]) (L' := []) (by kernel_rfl) (by kernel_rfl) ?_
        refine To.again ?_
        exact ih (IntKind.wrap .i64 (v7 + 1)) _ h hQ
    · replace h := if_f hb h
      refine Wp.exit ?_
      refine To.thenX ?_
      refine To.thenX ?_
      refine To.keep (kk := []) (kl := []) (K' := []) (L' := []) (by kernel_rfl) (by kernel_rfl) ?_
      cases h
      exact hQ
def name_of__name_Variable_1__name_Variable_2 (n : Nat) (a0 : List UInt8) : Option (Bool) :=
  if ((!((bif (decide ((List.length a0 : Int) < 1)) then true else (decide ((List.length a0 : Int) > 24))) == false) || decide (0 ≤ (0 : Int) ∧ (0 : Int) < (List.length a0 : Int)))) = true then (lett ((bif (bif (decide ((List.length a0 : Int) < 1)) then true else (decide ((List.length a0 : Int) > 24))) then true else (!(name_Variable_1 (((a0)[Int.toNat 0]?.getD 0).toNat : Int)))) : Bool) fun x1 =>
  if x1 = true then some false
  else ((name_of__name_Variable_1__name_Variable_2_l1 n a0 n 1).bind fun o2 =>
  (Sum.elim (fun o2 => some true) (fun o2 => some o2)) o2)) else none
theorem ok_name_of__name_Variable_1__name_Variable_2 (n : Nat) (a0 : List UInt8) (r : Bool) (h : name_of__name_Variable_1__name_Variable_2 n a0 = some r) : CallsX Tryd.prog 63 [.str a0, .fn 64 [], .fn 66 []] (.val (.bool r)) := by
  unfold name_of__name_Variable_1__name_Variable_2 at h
  refine callsX_of (fn := Tryd.f63) (by kernel_rfl) rfl (by kernel_rfl) (Nat.le_of_ble_eq_true (by kernel_rfl)) fun F0 w0 _ => ?_
  refine Wp.keep (kk := [0, 1, 2]) (kl := []) (K' := [(0, .str a0), (1, .fn 64 []), (2, .fn 66 [])]) (L' := []) (by kernel_rfl) (by kernel_rfl) ?_
  refine Wp.seq ?_
  refine Wp.region hΓ [] [] [] [0, 1, 2] [] (K' := [(0, .str a0), (1, .fn 64 []), (2, .fn 66 [])]) (L' := []) (ob := []) (by kernel_rfl) AllP.nil ?_
  refine To.thenN ?_
  refine Wp.seq ?_
  refine Wp.seq ?_
  obtain ⟨hc3, h⟩ := chk_of h
  obtain ⟨x1, hx1, h⟩ := lett_of h
  refine Wp.region hΓ [] [(12, .val (.bool (name_Variable_1 (((a0)[Int.toNat 0]?.getD 0).toNat : Int))))] [] [0, 2, 22] [] (K' := [(0, .str a0), (2, .fn 66 []), (22, .val (.bool (bif (bif (decide ((List.length a0 : Int) < 1)) then true else (decide ((List.length a0 : Int) > 24))) then true else (!(name_Variable_1 (((a0)[Int.toNat 0]?.getD 0).toNat : Int))))))]) (L' := []) (ob := [(!((bif (decide ((List.length a0 : Int) < 1)) then true else (decide ((List.length a0 : Int) > 24))) == false) || decide (0 ≤ (0 : Int) ∧ (0 : Int) < (List.length a0 : Int))) = true, (((bif (decide ((List.length a0 : Int) < 1)) then true else (decide ((List.length a0 : Int) > 24))) == false) = true → CX Tryd.prog 64 [.val (.int .u8 (((a0)[Int.toNat 0]?.getD 0).toNat : Int))] (.val (.bool (name_Variable_1 (((a0)[Int.toNat 0]?.getD 0).toNat : Int)))))]) (by kernel_rfl) (AllP.cons hc3 (AllP.cons (fun _ => cx (ok_name_Variable_1 (((a0)[Int.toNat 0]?.getD 0).toNat : Int) _ rfl)) AllP.nil)) ?_
  refine To.eq (K' := [(0, .str a0), (2, .fn 66 []), (22, .val (.bool x1))]) (L' := []) (by cases hx1; rfl) (by cases hx1; rfl) ?_
  refine To.thenN ?_
  refine Wp.cond (b := x1) (by kernel_rfl) (fun hb => ?_) (fun hb => ?_)
  · replace h := if_t hb h
    refine Wp.seq ?_
    refine Wp.region hΓ [] [] [] [6] [] (K' := [(6, .val (.bool false))]) (L' := []) (ob := []) (by kernel_rfl) AllP.nil ?_
    refine To.thenN ?_
    refine Wp.ret ?_
    refine To.thenR ?_
    refine To.keep (kk := [6]) (kl := []) (K' := [(6, .val (.bool false))]) (L' := []) (by kernel_rfl) (by kernel_rfl) ?_
    cases h
    exact To.done hΓ (by kernel_rfl)
  · replace h := if_f hb h
    refine Wp.skip ?_
    refine To.thenN ?_
    refine Wp.seq ?_
    refine Wp.seq ?_
    refine Wp.region hΓ [] [] [] [0, 2, 7] [] (K' := [(0, .str a0), (2, .fn 66 []), (7, .val (.int .i64 1))]) (L' := []) (ob := []) (by kernel_rfl) AllP.nil ?_
    refine To.thenN ?_
    refine Wp.block ?_
    obtain ⟨o2, ho2, h⟩ := bind_of h
    refine Wp.keep (kk := [0, 2, 7]) (kl := []) (K' := [(0, .str a0), (2, .fn 66 []), (7, .val (.int .i64 1))]) (L' := []) (by kernel_rfl) (by kernel_rfl) ?_
    refine Wp.loopL ?_
    refine ok_name_of__name_Variable_1__name_Variable_2_l1 n a0 n 1 o2 ho2 ?_
    rcases o2 with o2 | o2
    · replace h := sum_l h
      refine To.blockX ?_
      refine To.thenN ?_
      refine Wp.seq ?_
      refine Wp.region hΓ [] [] [] [6] [] (K' := [(6, .val (.bool true))]) (L' := []) (ob := []) (by kernel_rfl) AllP.nil ?_
      refine To.thenN ?_
      refine Wp.ret ?_
      refine To.keep (kk := [6]) (kl := []) (K' := [(6, .val (.bool true))]) (L' := []) (by kernel_rfl) (by kernel_rfl) ?_
      cases h
      exact To.done hΓ (by kernel_rfl)
    · replace h := sum_r h
      refine To.blockR ?_
      refine To.thenR ?_
      refine To.keep (kk := [6]) (kl := []) (K' := [(6, .val (.bool o2))]) (L' := []) (by kernel_rfl) (by kernel_rfl) ?_
      cases h
      exact To.done hΓ (by kernel_rfl)
def name_Variable (n : Nat) (a0 : List UInt8) : Option (Bool) :=
  (name_of__name_Variable_1__name_Variable_2 n a0).bind fun r1 =>
  some r1
theorem ok_name_Variable (n : Nat) (a0 : List UInt8) (r : Bool) (h : name_Variable n a0 = some r) : CallsX Tryd.prog 46 [.str a0] (.val (.bool r)) := by
  unfold name_Variable at h
  refine callsX_of (fn := Tryd.f46) (by kernel_rfl) rfl (by kernel_rfl) (Nat.le_of_ble_eq_true (by kernel_rfl)) fun F0 w0 _ => ?_
  refine Wp.keep (kk := [0]) (kl := []) (K' := [(0, .str a0)]) (L' := []) (by kernel_rfl) (by kernel_rfl) ?_
  refine Wp.seq ?_
  refine Wp.region hΓ [] [] [] [0] [] (K' := [(0, .str a0)]) (L' := []) (ob := []) (by kernel_rfl) AllP.nil ?_
  refine To.thenN ?_
  refine Wp.seq ?_
  obtain ⟨r1, hr1, h⟩ := bind_of h
  refine Wp.region hΓ [] [(1, .val (.bool r1))] [] [2] [] (K' := [(2, .val (.bool r1))]) (L' := []) (ob := [(true = true → CX Tryd.prog 63 [.str a0, .fn 64 [], .fn 66 []] (.val (.bool r1)))]) (by kernel_rfl) (AllP.cons (fun _ => cx (ok_name_of__name_Variable_1__name_Variable_2 n a0 _ hr1)) AllP.nil) ?_
  refine To.thenN ?_
  refine Wp.ret ?_
  refine To.keep (kk := [2]) (kl := []) (K' := [(2, .val (.bool r1))]) (L' := []) (by kernel_rfl) (by kernel_rfl) ?_
  cases h
  exact To.done hΓ (by kernel_rfl)
def tmpl_reader_name__o0_l1 (n : Nat) (v3 : Int) : Nat → S_tmpl_reader → Option (S_tmpl_reader)
  | 0, _ => none
  | k + 1, b1000000 => if ((!((decide (b1000000.f_at < (List.length b1000000.f_s : Int))) == true) || decide (0 ≤ b1000000.f_at ∧ b1000000.f_at < (List.length b1000000.f_s : Int)))) = true then (lett (tmpl_word (((b1000000.f_s)[Int.toNat b1000000.f_at]?.getD 0).toNat : Int)) fun r1 =>
  if (bif (decide (b1000000.f_at < (List.length b1000000.f_s : Int))) then r1 else false) = true then (tmpl_reader_name__o0_l1 n v3 k (S_tmpl_reader.mk b1000000.f_s (IntKind.wrap .i64 (b1000000.f_at + 1)) b1000000.f_e))
  else some b1000000) else none
theorem ok_tmpl_reader_name__o0_l1 (n : Nat) (v3 : Int) {F0 : Fz} {w0 : Pt Tryd.prog} {Q : Exit → Act → World → Prop} (k : Nat) : ∀ (b1000000 : S_tmpl_reader) (o : S_tmpl_reader), tmpl_reader_name__o0_l1 n v3 k b1000000 = some o → To 62 F0 w0 [(0, .own 1000000 0), (3, .val (.int .i64 v3))] [(1000000, 43, [.str o.f_s, .val (.int .i64 o.f_at), .val (.int .i64 o.f_e)])] (.exit 0) Q → WL Tryd.prog 62 F0 w0 [(0, .own 1000000 0), (3, .val (.int .i64 v3))] [(1000000, 43, [.str b1000000.f_s, .val (.int .i64 b1000000.f_at), .val (.int .i64 b1000000.f_e)])] (cI (cI (cA (cB (cB (cF Tryd.f35)))))) Q := by
  induction k with
  | zero => intro b1000000 o h; cases h
  | succ k ih =>
    intro b1000000 o h hQ
    rw [tmpl_reader_name__o0_l1] at h
    refine WL.round ?_
    refine Wp.seq ?_
    refine Wp.seq ?_
    obtain ⟨hc2, h⟩ := chk_of h
    obtain ⟨r1, hr1, h⟩ := lett_of h
    refine Wp.regionD hm hΓ [(20, .val (.bool r1))] [0, 3, 29] [1000000] (K' := [(0, .own 1000000 0), (3, .val (.int .i64 v3)), (29, .val (.bool (bif (decide (b1000000.f_at < (List.length b1000000.f_s : Int))) then r1 else false)))]) (L' := [(1000000, 43, [.str b1000000.f_s, .val (.int .i64 b1000000.f_at), .val (.int .i64 b1000000.f_e)])]) (ob := [(!((decide (b1000000.f_at < (List.length b1000000.f_s : Int))) == true) || decide (0 ≤ b1000000.f_at ∧ b1000000.f_at < (List.length b1000000.f_s : Int))) = true, (((decide (b1000000.f_at < (List.length b1000000.f_s : Int))) == true) = true → CX Tryd.prog 45 [.val (.int .u8 (((b1000000.f_s)[Int.toNat b1000000.f_at]?.getD 0).toNat : Int))] (.val (.bool r1)))]) (by kernel_rfl) (AllP.cons hc2 (AllP.cons (fun _ => cx (ok_tmpl_word (((b1000000.f_s)[Int.toNat b1000000.f_at]?.getD 0).toNat : Int) _ hr1)) AllP.nil)) ?_
    refine To.thenN ?_
    refine Wp.cond (b := (bif (decide (b1000000.f_at < (List.length b1000000.f_s : Int))) then r1 else false)) (by kernel_rfl) (fun hb => ?_) (fun hb => ?_)
    · replace h := if_t hb h
      refine Wp.skip ?_
      refine To.thenN ?_
      refine Wp.block ?_
      refine Wp.region hΓ [] [] [] [0, 3] [1000000] (K' := [(0, .own 1000000 0), (3, .val (.int .i64 v3))]) (L' := [(1000000, 43, [.str b1000000.f_s, .val (.int .i64 (IntKind.wrap .i64 (b1000000.f_at + 1))), .val (.int .i64 b1000000.f_e)])]) (ob := []) (by kernel_rfl) AllP.nil ?_
      refine To.blockN ?_
      refine To.keep (kk := [0, 3]) (kl := [1000000]) (K' := [(0, .own 1000000 0), (3, .val (.int .i64 v3))]) (L' := [(1000000, 43, [.str b1000000.f_s, .val (.int .i64 (IntKind.wrap .i64 (b1000000.f_at + 1))), .val (.int .i64 b1000000.f_e)])]) (by kernel_rfl) (by kernel_rfl) ?_
      refine To.again ?_
      exact ih (S_tmpl_reader.mk b1000000.f_s (IntKind.wrap .i64 (b1000000.f_at + 1)) b1000000.f_e) _ h hQ
    · replace h := if_f hb h
      refine Wp.exit ?_
      refine To.thenX ?_
      refine To.thenX ?_
      refine To.keep (kk := [0, 3]) (kl := [1000000]) (K' := [(0, .own 1000000 0), (3, .val (.int .i64 v3))]) (L' := [(1000000, 43, [.str b1000000.f_s, .val (.int .i64 b1000000.f_at), .val (.int .i64 b1000000.f_e)])]) (by kernel_rfl) (by kernel_rfl) ?_
      cases h
      exact hQ
def tmpl_reader_name__o0_j2 (n : Nat) (v3 : Int) (v48 : Bool) (b1000000 : S_tmpl_reader) : Option (S_tmpl_reader) :=
  if v48 = true then (some (S_tmpl_reader.mk b1000000.f_s b1000000.f_at 3))
  else some b1000000
theorem ok_tmpl_reader_name__o0_j2 (n : Nat) (v3 : Int) (v48 : Bool) (b1000000 : S_tmpl_reader) (o : S_tmpl_reader) (h : tmpl_reader_name__o0_j2 n v3 v48 b1000000 = some o) {F0 : Fz} {w0 : Pt Tryd.prog} {Q : Exit → Act → World → Prop} (hQ : To 62 F0 w0 [(0, .own 1000000 0), (3, .val (.int .i64 v3))] [(1000000, 43, [.str o.f_s, .val (.int .i64 o.f_at), .val (.int .i64 o.f_e)])] .normal Q) : Wp Tryd.prog 62 F0 w0 [(0, .own 1000000 0), (3, .val (.int .i64 v3)), (48, .val (.bool v48))] [(1000000, 43, [.str b1000000.f_s, .val (.int .i64 b1000000.f_at), .val (.int .i64 b1000000.f_e)])] (cB (cA (cB (cB (cB (cF Tryd.f35)))))) Q := by
  unfold tmpl_reader_name__o0_j2 at h
  refine Wp.cond (b := v48) (by kernel_rfl) (fun hb => ?_) (fun hb => ?_)
  · replace h := if_t hb h
    refine Wp.region hΓ [] [] [] [0, 3] [1000000] (K' := [(0, .own 1000000 0), (3, .val (.int .i64 v3))]) (L' := [(1000000, 43, [.str b1000000.f_s, .val (.int .i64 b1000000.f_at), .val (.int .i64 3)])]) (ob := []) (by kernel_rfl) AllP.nil ?_
    refine To.keep (kk := [0, 3]) (kl := [1000000]) (K' := [(0, .own 1000000 0), (3, .val (.int .i64 v3))]) (L' := [(1000000, 43, [.str b1000000.f_s, .val (.int .i64 b1000000.f_at), .val (.int .i64 3)])]) (by kernel_rfl) (by kernel_rfl) ?_
    cases h
    exact hQ
  · replace h := if_f hb h
    refine Wp.skip ?_
    refine To.keep (kk := [0, 3]) (kl := [1000000]) (K' := [(0, .own 1000000 0), (3, .val (.int .i64 v3))]) (L' := [(1000000, 43, [.str b1000000.f_s, .val (.int .i64 b1000000.f_at), .val (.int .i64 b1000000.f_e)])]) (by kernel_rfl) (by kernel_rfl) ?_
    cases h
    exact hQ
def tmpl_reader_name__o0 (n : Nat) (h0 : S_tmpl_reader) : Option ((List UInt8) × S_tmpl_reader) :=
  (tmpl_reader_name__o0_l1 n h0.f_at n h0).bind fun o1 =>
  if (decide (0 ≤ o1.f_at ∧ o1.f_at ≤ (List.length o1.f_s : Int))) = true then (if (decide (0 ≤ h0.f_at ∧ h0.f_at ≤ o1.f_at)) = true then ((name_Variable n (List.take (Int.toNat o1.f_at - Int.toNat h0.f_at) (List.drop (Int.toNat h0.f_at) o1.f_s))).bind fun r2 =>
  (tmpl_reader_name__o0_j2 n h0.f_at (!r2) o1).bind fun o3 =>
  if (decide (0 ≤ o3.f_at ∧ o3.f_at ≤ (List.length o3.f_s : Int))) = true then (if (decide (0 ≤ h0.f_at ∧ h0.f_at ≤ o3.f_at)) = true then (some ((List.take (Int.toNat o3.f_at - Int.toNat h0.f_at) (List.drop (Int.toNat h0.f_at) o3.f_s)), o3)) else none) else none) else none) else none
theorem ok_tmpl_reader_name__o0 (n : Nat) (h0 : S_tmpl_reader) (r : (List UInt8) × S_tmpl_reader) (h : tmpl_reader_name__o0 n h0 = some r) : CallsB Tryd.prog 35 [.own 1000000 0] [(1000000, 43, [.str h0.f_s, .val (.int .i64 h0.f_at), .val (.int .i64 h0.f_e)])] (.str r.1) [(1000000, 43, [.str r.2.f_s, .val (.int .i64 r.2.f_at), .val (.int .i64 r.2.f_e)])] := by
  unfold tmpl_reader_name__o0 at h
  refine callsB_of (fn := Tryd.f35) (by kernel_rfl) rfl (by kernel_rfl) (Nat.le_of_ble_eq_true (by kernel_rfl)) fun F0 w0 => ?_
  refine Wp.keep (kk := [0]) (kl := [1000000]) (K' := [(0, .own 1000000 0)]) (L' := [(1000000, 43, [.str h0.f_s, .val (.int .i64 h0.f_at), .val (.int .i64 h0.f_e)])]) (by kernel_rfl) (by kernel_rfl) ?_
  refine Wp.seq ?_
  refine Wp.region hΓ [] [] [] [0] [1000000] (K' := [(0, .own 1000000 0)]) (L' := [(1000000, 43, [.str h0.f_s, .val (.int .i64 h0.f_at), .val (.int .i64 h0.f_e)])]) (ob := []) (by kernel_rfl) AllP.nil ?_
  refine To.thenN ?_
  refine Wp.seq ?_
  refine Wp.region hΓ [] [] [] [0, 3] [1000000] (K' := [(0, .own 1000000 0), (3, .val (.int .i64 h0.f_at))]) (L' := [(1000000, 43, [.str h0.f_s, .val (.int .i64 h0.f_at), .val (.int .i64 h0.f_e)])]) (ob := []) (by kernel_rfl) AllP.nil ?_
  refine To.thenN ?_
  refine Wp.seq ?_
  refine Wp.block ?_
  obtain ⟨o1, ho1, h⟩ := bind_of h
  refine Wp.keep (kk := [0, 3]) (kl := [1000000]) (K' := [(0, .own 1000000 0), (3, .val (.int .i64 h0.f_at))]) (L' := [(1000000, 43, [.str h0.f_s, .val (.int .i64 h0.f_at), .val (.int .i64 h0.f_e)])]) (by kernel_rfl) (by kernel_rfl) ?_
  refine Wp.loopL ?_
  refine ok_tmpl_reader_name__o0_l1 n h0.f_at n h0 o1 ho1 ?_
  refine To.blockX ?_
  refine To.thenN ?_
  refine Wp.seq ?_
  refine Wp.seq ?_
  obtain ⟨hc6, h⟩ := chk_of h
  obtain ⟨hc7, h⟩ := chk_of h
  obtain ⟨r2, hr2, h⟩ := bind_of h
  refine Wp.regionD hm hΓ [(10, .val (.bool r2))] [0, 3, 48] [1000000] (K' := [(0, .own 1000000 0), (3, .val (.int .i64 h0.f_at)), (48, .val (.bool (!r2)))]) (L' := [(1000000, 43, [.str o1.f_s, .val (.int .i64 o1.f_at), .val (.int .i64 o1.f_e)])]) (ob := [(decide (0 ≤ o1.f_at ∧ o1.f_at ≤ (List.length o1.f_s : Int))) = true, (decide (0 ≤ h0.f_at ∧ h0.f_at ≤ o1.f_at)) = true, (true = true → CX Tryd.prog 46 [.str (List.take (Int.toNat o1.f_at - Int.toNat h0.f_at) (List.drop (Int.toNat h0.f_at) o1.f_s))] (.val (.bool r2)))]) (by kernel_rfl) (AllP.cons hc6 (AllP.cons hc7 (AllP.cons (fun _ => cx (ok_name_Variable n (List.take (Int.toNat o1.f_at - Int.toNat h0.f_at) (List.drop (Int.toNat h0.f_at) o1.f_s)) _ hr2)) AllP.nil))) ?_
  refine To.thenN ?_
  obtain ⟨o3, ho3, h⟩ := bind_of h
  refine Wp.keep (kk := [0, 3, 48]) (kl := [1000000]) (K' := [(0, .own 1000000 0), (3, .val (.int .i64 h0.f_at)), (48, .val (.bool (!r2)))]) (L' := [(1000000, 43, [.str o1.f_s, .val (.int .i64 o1.f_at), .val (.int .i64 o1.f_e)])]) (by kernel_rfl) (by kernel_rfl) ?_
  refine ok_tmpl_reader_name__o0_j2 n h0.f_at (!r2) o1 o3 ho3 ?_
  refine To.thenN ?_
  refine Wp.seq ?_
  obtain ⟨hc4, h⟩ := chk_of h
  obtain ⟨hc5, h⟩ := chk_of h
  refine Wp.regionD hm hΓ [] [2] [1000000] (K' := [(2, .str (List.take (Int.toNat o3.f_at - Int.toNat h0.f_at) (List.drop (Int.toNat h0.f_at) o3.f_s)))]) (L' := [(1000000, 43, [.str o3.f_s, .val (.int .i64 o3.f_at), .val (.int .i64 o3.f_e)])]) (ob := [(decide (0 ≤ o3.f_at ∧ o3.f_at ≤ (List.length o3.f_s : Int))) = true, (decide (0 ≤ h0.f_at ∧ h0.f_at ≤ o3.f_at)) = true]) (by kernel_rfl) (AllP.cons hc4 (AllP.cons hc5 AllP.nil)) ?_
  refine To.thenN ?_
  refine Wp.ret ?_
  refine To.keep (kk := [2]) (kl := [1000000]) (K' := [(2, .str (List.take (Int.toNat o3.f_at - Int.toNat h0.f_at) (List.drop (Int.toNat h0.f_at) o3.f_s)))]) (L' := [(1000000, 43, [.str o3.f_s, .val (.int .i64 o3.f_at), .val (.int .i64 o3.f_e)])]) (by kernel_rfl) (by kernel_rfl) ?_
  cases h
  exact To.doneB hΓ [1000000] (by kernel_rfl) (by kernel_rfl)
def E_string : List UInt8 → List D := fun x => [.str x]
theorem good_E_string (l : List (List UInt8)) : GoodR (.recs [] E_string l) := ⟨Nat.le_of_ble_eq_true (by kernel_rfl), fun _ => ⟨rfl, rfl⟩⟩
def tmpl_marks (n : Nat) : Option ((List (List UInt8))) :=
  if (decide (List.length (List.replicate 8 ([] : List UInt8)) = 8)) = true then (if (decide (List.length ([[], [], [58, 45], [45], [58, 63], [63], [58, 43], [43]] : List (List UInt8)) = 8)) = true then some ([[], [], [58, 45], [45], [58, 63], [63], [58, 43], [43]] : List (List UInt8)) else none) else none
theorem ok_tmpl_marks (n : Nat) (r : (List (List UInt8))) (h : tmpl_marks n = some r) : CallsX Tryd.prog 19 [] (.arr (α := List UInt8) [] E_string r) := by
  unfold tmpl_marks at h
  refine callsX_of (fn := Tryd.f19) (by kernel_rfl) rfl (by kernel_rfl) (Nat.le_of_ble_eq_true (by kernel_rfl)) fun F0 w0 _ => ?_
  refine Wp.keep (kk := []) (kl := []) (K' := []) (L' := []) (by kernel_rfl) (by kernel_rfl) ?_
  refine Wp.seq ?_
  refine Wp.region hΓ [] [] [] [0] [0] (K' := [(0, .own 0 0)]) (L' := [(0, 54, [.str [], .str [], .str [], .str [], .str [], .str [], .str [], .str []])]) (ob := []) (by kernel_rfl) AllP.nil ?_
  refine To.pre (St.toRow (t := 54) (l := (List.replicate 8 ([] : List UInt8))) 0 1 8 (by decide) (by decide) (good_E_string _) (by kernel_rfl) (by kernel_rfl) (by kernel_rfl) (by kernel_rfl) (K' := [(0, .elm 0 0 1 0)]) (L' := [(0, 54, [.rowc false (α := List UInt8) [] E_string (List.replicate 8 ([] : List UInt8))])]) (by kernel_rfl) (by kernel_rfl)) ?_
  refine To.thenN ?_
  refine Wp.seq ?_
  obtain ⟨hc2, h⟩ := chk_of h
  refine Wp.region hΓ [] [(1, .recs (α := List UInt8) [] E_string ([[], [], [58, 45], [45], [58, 63], [63], [58, 43], [43]] : List (List UInt8)))] [] [0] [0] (K' := [(0, .elm 0 0 1 0)]) (L' := [(0, 54, [.rowc false (α := List UInt8) [] E_string ([[], [], [58, 45], [45], [58, 63], [63], [58, 43], [43]] : List (List UInt8))])]) (ob := [(decide (List.length (List.replicate 8 ([] : List UInt8)) = 8)) = true, (MkOb 1 (D.cells (.agg [.str [], .str [], .str [58, 45], .str [45], .str [58, 63], .str [63], .str [58, 43], .str [43]])) 8 (.recs (α := List UInt8) [] E_string ([[], [], [58, 45], [45], [58, 63], [63], [58, 43], [43]] : List (List UInt8))) ∧ GoodR (.recs (α := List UInt8) [] E_string ([[], [], [58, 45], [45], [58, 63], [63], [58, 43], [43]] : List (List UInt8))))]) (by kernel_rfl) (AllP.cons hc2 (AllP.cons (mkOb (by kernel_rfl) rfl (by kernel_rfl) (good_E_string _)) AllP.nil)) ?_
  refine To.thenN ?_
  refine Wp.ret ?_
  refine To.keep (kk := [0]) (kl := [0]) (K' := [(0, .elm 0 0 1 0)]) (L' := [(0, 54, [.rowc false (α := List UInt8) [] E_string ([[], [], [58, 45], [45], [58, 63], [63], [58, 43], [43]] : List (List UInt8))])]) (by kernel_rfl) (by kernel_rfl) ?_
  obtain ⟨hc1, h⟩ := chk_of h
  cases h
  exact To.doneA hΓ (by kernel_rfl) hc1
def tmpl_reader_mark__o0_j2 (n : Nat) (v3 : Int) (v4 : Int) (v7 : List (List UInt8)) (v8 : Int) (b1000000 : S_tmpl_reader) : Option (Int × Int) :=
  if (decide (0 ≤ v8 ∧ v8 < (8 : Int))) = true then (if (decide (List.length v7 = 8)) = true then (if ((!((decide ((List.length ((v7)[Int.toNat v8]?.getD []) : Int) > v4)) == true) || decide (0 ≤ b1000000.f_at ∧ b1000000.f_at ≤ (List.length b1000000.f_s : Int)))) = true then (lett ((bif (decide ((List.length ((v7)[Int.toNat v8]?.getD []) : Int) > v4)) then (Lib.hasPrefix (List.drop (Int.toNat b1000000.f_at) b1000000.f_s) ((v7)[Int.toNat v8]?.getD [])) else false) : Bool) fun x2 =>
  if x2 = true then (some (v8, (List.length ((v7)[Int.toNat v8]?.getD []) : Int)))
  else (some (v3, v4))) else none) else none) else none
theorem ok_tmpl_reader_mark__o0_j2 (n : Nat) (v3 : Int) (v4 : Int) (v7 : List (List UInt8)) (v8 : Int) (b1000000 : S_tmpl_reader) (o : Int × Int) (h : tmpl_reader_mark__o0_j2 n v3 v4 v7 v8 b1000000 = some o) {F0 : Fz} {w0 : Pt Tryd.prog} {Q : Exit → Act → World → Prop} (hQ : To 42 F0 w0 [(0, .own 1000000 0), (3, .val (.int .i64 o.1)), (4, .val (.int .i64 o.2)), (7, .arr (α := List UInt8) [] E_string v7), (8, .val (.int .i64 v8))] [(1000000, 43, [.str b1000000.f_s, .val (.int .i64 b1000000.f_at), .val (.int .i64 b1000000.f_e)])] .normal Q) : Wp Tryd.prog 42 F0 w0 [(0, .own 1000000 0), (3, .val (.int .i64 v3)), (4, .val (.int .i64 v4)), (7, .arr (α := List UInt8) [] E_string v7), (8, .val (.int .i64 v8))] [(1000000, 43, [.str b1000000.f_s, .val (.int .i64 b1000000.f_at), .val (.int .i64 b1000000.f_e)])] (cA (cB (cB (cI (cI (cB (cA (cB (cB (cF Tryd.f36)))))))))) Q := by
  unfold tmpl_reader_mark__o0_j2 at h
  refine Wp.block ?_
  refine Wp.seq ?_
  obtain ⟨hc4, h⟩ := chk_of h
  obtain ⟨hc5, h⟩ := chk_of h
  refine Wp.region hΓ [] [] [] [0, 3, 4, 5, 6, 7, 8] [1000000] (K' := [(0, .own 1000000 0), (3, .val (.int .i64 v3)), (4, .val (.int .i64 v4)), (5, .val (.int .i64 v8)), (6, .str ((v7)[Int.toNat v8]?.getD [])), (7, .arr (α := List UInt8) [] E_string v7), (8, .val (.int .i64 v8))]) (L' := [(1000000, 43, [.str b1000000.f_s, .val (.int .i64 b1000000.f_at), .val (.int .i64 b1000000.f_e)])]) (ob := [(decide (0 ≤ v8 ∧ v8 < (8 : Int))) = true, (decide (List.length v7 = 8)) = true]) (by kernel_rfl) (AllP.cons hc4 (AllP.cons hc5 AllP.nil)) ?_
  refine To.thenN ?_
  refine Wp.seq ?_
  obtain ⟨hc3, h⟩ := chk_of h
  obtain ⟨x2, hx2, h⟩ := lett_of h
  refine Wp.regionD hm hΓ [(15, .val (.bool (Lib.hasPrefix (List.drop (Int.toNat b1000000.f_at) b1000000.f_s) ((v7)[Int.toNat v8]?.getD []))))] [0, 3, 4, 5, 6, 7, 8, 28] [1000000] (K' := [(0, .own 1000000 0), (3, .val (.int .i64 v3)), (4, .val (.int .i64 v4)), (5, .val (.int .i64 v8)), (6, .str ((v7)[Int.toNat v8]?.getD [])), (7, .arr (α := List UInt8) [] E_string v7), (8, .val (.int .i64 v8)), (28, .val (.bool (bif (decide ((List.length ((v7)[Int.toNat v8]?.getD []) : Int) > v4)) then (Lib.hasPrefix (List.drop (Int.toNat b1000000.f_at) b1000000.f_s) ((v7)[Int.toNat v8]?.getD [])) else false)))]) (L' := [(1000000, 43, [.str b1000000.f_s, .val (.int .i64 b1000000.f_at), .val (.int .i64 b1000000.f_e)])]) (ob := [(!((decide ((List.length ((v7)[Int.toNat v8]?.getD []) : Int) > v4)) == true) || decide (0 ≤ b1000000.f_at ∧ b1000000.f_at ≤ (List.length b1000000.f_s : Int))) = true, (((decide ((List.length ((v7)[Int.toNat v8]?.getD []) : Int) > v4)) == true) = true → CX Tryd.prog 26 [.str (List.drop (Int.toNat b1000000.f_at) b1000000.f_s), .str ((v7)[Int.toNat v8]?.getD [])] (.val (.bool (Lib.hasPrefix (List.drop (Int.toNat b1000000.f_at) b1000000.f_s) ((v7)[Int.toNat v8]?.getD [])))))]) (by kernel_rfl) (AllP.cons hc3 (AllP.cons (fun _ => cx (Sh.hasPrefix26)) AllP.nil)) ?_
  refine To.eq (K' := [(0, .own 1000000 0), (3, .val (.int .i64 v3)), (4, .val (.int .i64 v4)), (5, .val (.int .i64 v8)), (6, .str ((v7)[Int.toNat v8]?.getD [])), (7, .arr (α := List UInt8) [] E_string v7), (8, .val (.int .i64 v8)), (28, .val (.bool x2))]) (L' := [(1000000, 43, [.str b1000000.f_s, .val (.int .i64 b1000000.f_at), .val (.int .i64 b1000000.f_e)])]) (by cases hx2; rfl) (by cases hx2; rfl) ?_
  refine To.thenN ?_
  refine Wp.cond (b := x2) (by kernel_rfl) (fun hb => ?_) (fun hb => ?_)
  · replace h := if_t hb h
    refine Wp.region hΓ [] [] [] [0, 3, 4, 7, 8] [1000000] (K' := [(0, .own 1000000 0), (3, .val (.int .i64 v8)), (4, .val (.int .i64 (List.length ((v7)[Int.toNat v8]?.getD []) : Int))), (7, .arr (α := List UInt8) [] E_string v7), (8, .val (.int .i64 v8))]) (L' := [(1000000, 43, [.str b1000000.f_s, .val (.int .i64 b1000000.f_at), .val (.int .i64 b1000000.f_e)])]) (ob := []) (by kernel_rfl) AllP.nil ?_
    refine To.blockN ?_
    refine To.keep (kk := [0, 3, 4, 7, 8]) (kl := [1000000]) (K' := [(0, .own 1000000 0), (3, .val (.int .i64 v8)), (4, .val (.int .i64 (List.length ((v7)[Int.toNat v8]?.getD []) : Int))), (7, .arr (α := List UInt8) [] E_string v7), (8, .val (.int .i64 v8))]) (L' := [(1000000, 43, [.str b1000000.f_s, .val (.int .i64 b1000000.f_at), .val (.int .i64 b1000000.f_e)])]) (by kernel_rfl) (by kernel_rfl) ?_
    cases h
    exact hQ
  · replace h := if_f hb h
    refine Wp.skip ?_
    refine To.blockN ?_
    refine To.keep (kk := [0, 3, 4, 7, 8]) (kl := [1000000]) (K' := [(0, .own 1000000 0), (3, .val (.int .i64 v3)), (4, .val (.int .i64 v4)), (7, .arr (α := List UInt8) [] E_string v7), (8, .val (.int .i64 v8))]) (L' := [(1000000, 43, [.str b1000000.f_s, .val (.int .i64 b1000000.f_at), .val (.int .i64 b1000000.f_e)])]) (by kernel_rfl) (by kernel_rfl) ?_
    cases h
    exact hQ
def tmpl_reader_mark__o0_l1 (n : Nat) (v7 : List (List UInt8)) (b1000000 : S_tmpl_reader) : Nat → Int → Int → Int → Option (Int × Int)
  | 0, _, _, _ => none
  | k + 1, v3, v4, v8 => if (decide (v8 < 8)) = true then ((tmpl_reader_mark__o0_j2 n v3 v4 v7 v8 b1000000).bind fun o2 =>
  tmpl_reader_mark__o0_l1 n v7 b1000000 k o2.1 o2.2 (IntKind.wrap .i64 (v8 + 1)))
  else (some (v3, v4))
theorem ok_tmpl_reader_mark__o0_l1 (n : Nat) (v7 : List (List UInt8)) (b1000000 : S_tmpl_reader) {F0 : Fz} {w0 : Pt Tryd.prog} {Q : Exit → Act → World → Prop} (k : Nat) : ∀ (v3 : Int) (v4 : Int) (v8 : Int) (o : Int × Int), tmpl_reader_mark__o0_l1 n v7 b1000000 k v3 v4 v8 = some o → To 42 F0 w0 [(0, .own 1000000 0), (3, .val (.int .i64 o.1)), (4, .val (.int .i64 o.2))] [(1000000, 43, [.str b1000000.f_s, .val (.int .i64 b1000000.f_at), .val (.int .i64 b1000000.f_e)])] (.exit 0) Q → WL Tryd.prog 42 F0 w0 [(0, .own 1000000 0), (3, .val (.int .i64 v3)), (4, .val (.int .i64 v4)), (7, .arr (α := List UInt8) [] E_string v7), (8, .val (.int .i64 v8))] [(1000000, 43, [.str b1000000.f_s, .val (.int .i64 b1000000.f_at), .val (.int .i64 b1000000.f_e)])] (cI (cI (cB (cA (cB (cB (cF Tryd.f36))))))) Q := by
  induction k with
  | zero => intro v3 v4 v8 o h; cases h
  | succ k ih =>
    intro v3 v4 v8 o h hQ
    rw [tmpl_reader_mark__o0_l1] at h
    refine WL.round ?_
    refine Wp.seq ?_
    refine Wp.region hΓ [] [] [] [0, 3, 4, 7, 8, 9] [1000000] (K' := [(0, .own 1000000 0), (3, .val (.int .i64 v3)), (4, .val (.int .i64 v4)), (7, .arr (α := List UInt8) [] E_string v7), (8, .val (.int .i64 v8)), (9, .val (.bool (decide (v8 < 8))))]) (L' := [(1000000, 43, [.str b1000000.f_s, .val (.int .i64 b1000000.f_at), .val (.int .i64 b1000000.f_e)])]) (ob := []) (by kernel_rfl) AllP.nil ?_
    refine To.thenN ?_
    refine Wp.seq ?_
    refine Wp.cond (b := (decide (v8 < 8))) (by kernel_rfl) (fun hb => ?_) (fun hb => ?_)
    · replace h := if_t hb h
      refine Wp.skip ?_
      refine To.thenN ?_
      refine Wp.seq ?_
      obtain ⟨o2, ho2, h⟩ := bind_of h
      refine Wp.keep (kk := [0, 3, 4, 7, 8]) (kl := [1000000]) (K' := [(0, .own 1000000 0), (3, .val (.int .i64 v3)), (4, .val (.int .i64 v4)), (7, .arr (α := List UInt8) [] E_string v7), (8, .val (.int .i64 v8))]) (L' := [(1000000, 43, [.str b1000000.f_s, .val (.int .i64 b1000000.f_at), .val (.int .i64 b1000000.f_e)])]) (by kernel_rfl) (by kernel_rfl) ?_
      refine ok_tmpl_reader_mark__o0_j2 n v3 v4 v7 v8 b1000000 o2 ho2 ?_
      refine To.thenN ?_
      refine Wp.region hΓ [] [] [] [0, 3, 4, 7, 8] [1000000] (K' := [(0, .own 1000000 0), (3, .val (.int .i64 o2.1)), (4, .val (.int .i64 o2.2)), (7, .arr (α := List UInt8) [] E_string v7), (8, .val (.int .i64 (IntKind.wrap .i64 (v8 + 1))))]) (L' := [(1000000, 43, [.str b1000000.f_s, .val (.int .i64 b1000000.f_at), .val (.int .i64 b1000000.f_e)])]) (ob := []) (by kernel_rfl) AllP.nil ?_
      refine To.keep (kk := [0, 3, 4, 7, 8]) (kl := [1000000]) (K' := [(0, .own 1000000 0), (3, .val (.int .i64 o2.1)), (4, .val (.int .i64 o2.2)), (7, .arr (α := List UInt8) [] E_string v7), (8, .val (.int .i64 (IntKind.wrap .i64 (v8 + 1))))]) (L' := [(1000000, 43, [.str b1000000.f_s, .val (.int .i64 b1000000.f_at), .val (.int .i64 b1000000.f_e)])]) (by kernel_rfl) (by kernel_rfl) ?_
      refine To.again ?_
      exact ih o2.1 o2.2 (IntKind.wrap .i64 (v8 + 1)) _ h hQ
    · replace h := if_f hb h
      refine Wp.exit ?_
      refine To.thenX ?_
      refine To.thenX ?_
      refine To.keep (kk := [0, 3, 4]) (kl := [1000000]) (K' := [(0, .own 1000000 0), (3, .val (.int .i64 v3)), (4, .val (.int .i64 v4))]) (L' := [(1000000, 43, [.str b1000000.f_s, .val (.int .i64 b1000000.f_at), .val (.int .i64 b1000000.f_e)])]) (by kernel_rfl) (by kernel_rfl) ?_
      cases h
      exact hQ
def tmpl_reader_mark__o0 (n : Nat) (h0 : S_tmpl_reader) : Option (Int × S_tmpl_reader) :=
  (tmpl_marks n).bind fun r1 =>
  (tmpl_reader_mark__o0_l1 n r1 h0 n 1 0 0).bind fun o2 =>
  some (o2.1, (S_tmpl_reader.mk h0.f_s (IntKind.wrap .i64 (h0.f_at + o2.2)) h0.f_e))
theorem ok_tmpl_reader_mark__o0 (n : Nat) (h0 : S_tmpl_reader) (r : Int × S_tmpl_reader) (h : tmpl_reader_mark__o0 n h0 = some r) : CallsB Tryd.prog 36 [.own 1000000 0] [(1000000, 43, [.str h0.f_s, .val (.int .i64 h0.f_at), .val (.int .i64 h0.f_e)])] (.val (.int .i64 r.1)) [(1000000, 43, [.str r.2.f_s, .val (.int .i64 r.2.f_at), .val (.int .i64 r.2.f_e)])] := by
  unfold tmpl_reader_mark__o0 at h
  refine callsB_of (fn := Tryd.f36) (by kernel_rfl) rfl (by kernel_rfl) (Nat.le_of_ble_eq_true (by kernel_rfl)) fun F0 w0 => ?_
  refine Wp.keep (kk := [0]) (kl := [1000000]) (K' := [(0, .own 1000000 0)]) (L' := [(1000000, 43, [.str h0.f_s, .val (.int .i64 h0.f_at), .val (.int .i64 h0.f_e)])]) (by kernel_rfl) (by kernel_rfl) ?_
  refine Wp.seq ?_
  refine Wp.region hΓ [] [] [] [0] [1000000] (K' := [(0, .own 1000000 0)]) (L' := [(1000000, 43, [.str h0.f_s, .val (.int .i64 h0.f_at), .val (.int .i64 h0.f_e)])]) (ob := []) (by kernel_rfl) AllP.nil ?_
  refine To.thenN ?_
  refine Wp.seq ?_
  refine Wp.region hΓ [] [] [] [0, 3, 4] [1000000] (K' := [(0, .own 1000000 0), (3, .val (.int .i64 1)), (4, .val (.int .i64 0))]) (L' := [(1000000, 43, [.str h0.f_s, .val (.int .i64 h0.f_at), .val (.int .i64 h0.f_e)])]) (ob := []) (by kernel_rfl) AllP.nil ?_
  refine To.thenN ?_
  refine Wp.seq ?_
  refine Wp.seq ?_
  obtain ⟨r1, hr1, h⟩ := bind_of h
  refine Wp.region hΓ [] [(0, .arr (α := List UInt8) [] E_string r1)] [] [0, 3, 4, 7, 8] [1000000] (K' := [(0, .own 1000000 0), (3, .val (.int .i64 1)), (4, .val (.int .i64 0)), (7, .arr (α := List UInt8) [] E_string r1), (8, .val (.int .i64 0))]) (L' := [(1000000, 43, [.str h0.f_s, .val (.int .i64 h0.f_at), .val (.int .i64 h0.f_e)])]) (ob := [(true = true → CX Tryd.prog 19 [] (.arr (α := List UInt8) [] E_string r1))]) (by kernel_rfl) (AllP.cons (fun _ => cx (ok_tmpl_marks n  _ hr1)) AllP.nil) ?_
  refine To.thenN ?_
  refine Wp.block ?_
  obtain ⟨o2, ho2, h⟩ := bind_of h
  refine Wp.keep (kk := [0, 3, 4, 7, 8]) (kl := [1000000]) (K' := [(0, .own 1000000 0), (3, .val (.int .i64 1)), (4, .val (.int .i64 0)), (7, .arr (α := List UInt8) [] E_string r1), (8, .val (.int .i64 0))]) (L' := [(1000000, 43, [.str h0.f_s, .val (.int .i64 h0.f_at), .val (.int .i64 h0.f_e)])]) (by kernel_rfl) (by kernel_rfl) ?_
  refine Wp.loopL ?_
  refine ok_tmpl_reader_mark__o0_l1 n r1 h0 n 1 0 0 o2 ho2 ?_
  refine To.blockX ?_
  refine To.thenN ?_
  refine Wp.seq ?_
  refine Wp.region hΓ [] [] [] [3] [1000000] (K' := [(3, .val (.int .i64 o2.1))]) (L' := [(1000000, 43, [.str h0.f_s, .val (.int .i64 (IntKind.wrap .i64 (h0.f_at + o2.2))), .val (.int .i64 h0.f_e)])]) (ob := []) (by kernel_rfl) AllP.nil ?_
  refine To.thenN ?_
  refine Wp.seq ?_
  refine Wp.region hΓ [] [] [] [2] [1000000] (K' := [(2, .val (.int .i64 o2.1))]) (L' := [(1000000, 43, [.str h0.f_s, .val (.int .i64 (IntKind.wrap .i64 (h0.f_at + o2.2))), .val (.int .i64 h0.f_e)])]) (ob := []) (by kernel_rfl) AllP.nil ?_
  refine To.thenN ?_
  refine Wp.ret ?_
  refine To.keep (kk := [2]) (kl := [1000000]) (K' := [(2, .val (.int .i64 o2.1))]) (L' := [(1000000, 43, [.str h0.f_s, .val (.int .i64 (IntKind.wrap .i64 (h0.f_at + o2.2))), .val (.int .i64 h0.f_e)])]) (by kernel_rfl) (by kernel_rfl) ?_
  cases h
  exact To.doneB hΓ [1000000] (by kernel_rfl) (by kernel_rfl)
def tmpl_reader_end__o0_j1 (n : Nat) (v30 : Bool) (b1000000 : S_tmpl_reader) : Option (S_tmpl_reader) :=
  if v30 = true then (some (S_tmpl_reader.mk b1000000.f_s b1000000.f_at 3))
  else some b1000000
theorem ok_tmpl_reader_end__o0_j1 (n : Nat) (v30 : Bool) (b1000000 : S_tmpl_reader) (o : S_tmpl_reader) (h : tmpl_reader_end__o0_j1 n v30 b1000000 = some o) {F0 : Fz} {w0 : Pt Tryd.prog} {Q : Exit → Act → World → Prop} (hQ : To 41 F0 w0 [(0, .own 1000000 0)] [(1000000, 43, [.str o.f_s, .val (.int .i64 o.f_at), .val (.int .i64 o.f_e)])] .normal Q) : Wp Tryd.prog 41 F0 w0 [(0, .own 1000000 0), (30, .val (.bool v30))] [(1000000, 43, [.str b1000000.f_s, .val (.int .i64 b1000000.f_at), .val (.int .i64 b1000000.f_e)])] (cB (cA (cF Tryd.f37))) Q := by
  unfold tmpl_reader_end__o0_j1 at h
  refine Wp.cond (b := v30) (by kernel_rfl) (fun hb => ?_) (fun hb => ?_)
  · replace h := if_t hb h
    refine Wp.region hΓ [] [] [] [0] [1000000] (K' := [(0, .own 1000000 0)]) (L' := [(1000000, 43, [.str b1000000.f_s, .val (.int .i64 b1000000.f_at), .val (.int .i64 3)])]) (ob := []) (by kernel_rfl) AllP.nil ?_
    refine To.keep (kk := [0]) (kl := [1000000]) (K' := [(0, .own 1000000 0)]) (L' := [(1000000, 43, [.str b1000000.f_s, .val (.int .i64 b1000000.f_at), .val (.int .i64 3)])]) (by kernel_rfl) (by kernel_rfl) ?_
    cases h
    exact hQ
  · replace h := if_f hb h
    refine Wp.skip ?_
    refine To.keep (kk := [0]) (kl := [1000000]) (K' := [(0, .own 1000000 0)]) (L' := [(1000000, 43, [.str b1000000.f_s, .val (.int .i64 b1000000.f_at), .val (.int .i64 b1000000.f_e)])]) (by kernel_rfl) (by kernel_rfl) ?_
    cases h
    exact hQ
def tmpl_reader_end__o0 (n : Nat) (h0 : S_tmpl_reader) : Option (S_tmpl_reader) :=
  if ((!(((h0.f_at == (List.length h0.f_s : Int)) == false) && ((h0.f_e == 0) == true)) || decide (0 ≤ h0.f_at ∧ h0.f_at < (List.length h0.f_s : Int)))) = true then (lett ((bif (h0.f_e == 0) then (bif (h0.f_at == (List.length h0.f_s : Int)) then true else ((((h0.f_s)[Int.toNat h0.f_at]?.getD 0).toNat : Int) != 125)) else false) : Bool) fun x1 =>
  (tmpl_reader_end__o0_j1 n x1 h0).bind fun o2 =>
  some (S_tmpl_reader.mk o2.f_s (IntKind.wrap .i64 (o2.f_at + 1)) o2.f_e)) else none
theorem ok_tmpl_reader_end__o0 (n : Nat) (h0 : S_tmpl_reader) (r : S_tmpl_reader) (h : tmpl_reader_end__o0 n h0 = some r) : CallsB Tryd.prog 37 [.own 1000000 0] [(1000000, 43, [.str h0.f_s, .val (.int .i64 h0.f_at), .val (.int .i64 h0.f_e)])] (.tup []) [(1000000, 43, [.str r.f_s, .val (.int .i64 r.f_at), .val (.int .i64 r.f_e)])] := by
  unfold tmpl_reader_end__o0 at h
  refine callsB_of (fn := Tryd.f37) (by kernel_rfl) rfl (by kernel_rfl) (Nat.le_of_ble_eq_true (by kernel_rfl)) fun F0 w0 => ?_
  refine Wp.keep (kk := [0]) (kl := [1000000]) (K' := [(0, .own 1000000 0)]) (L' := [(1000000, 43, [.str h0.f_s, .val (.int .i64 h0.f_at), .val (.int .i64 h0.f_e)])]) (by kernel_rfl) (by kernel_rfl) ?_
  refine Wp.seq ?_
  refine Wp.seq ?_
  obtain ⟨hc3, h⟩ := chk_of h
  obtain ⟨x1, hx1, h⟩ := lett_of h
  refine Wp.regionD hm hΓ [] [0, 30] [1000000] (K' := [(0, .own 1000000 0), (30, .val (.bool (bif (h0.f_e == 0) then (bif (h0.f_at == (List.length h0.f_s : Int)) then true else ((((h0.f_s)[Int.toNat h0.f_at]?.getD 0).toNat : Int) != 125)) else false)))]) (L' := [(1000000, 43, [.str h0.f_s, .val (.int .i64 h0.f_at), .val (.int .i64 h0.f_e)])]) (ob := [(!(((h0.f_at == (List.length h0.f_s : Int)) == false) && ((h0.f_e == 0) == true)) || decide (0 ≤ h0.f_at ∧ h0.f_at < (List.length h0.f_s : Int))) = true]) (by kernel_rfl) (AllP.cons hc3 AllP.nil) ?_
  refine To.eq (K' := [(0, .own 1000000 0), (30, .val (.bool x1))]) (L' := [(1000000, 43, [.str h0.f_s, .val (.int .i64 h0.f_at), .val (.int .i64 h0.f_e)])]) (by cases hx1; rfl) (by cases hx1; rfl) ?_
  refine To.thenN ?_
  obtain ⟨o2, ho2, h⟩ := bind_of h
  refine Wp.keep (kk := [0, 30]) (kl := [1000000]) (K' := [(0, .own 1000000 0), (30, .val (.bool x1))]) (L' := [(1000000, 43, [.str h0.f_s, .val (.int .i64 h0.f_at), .val (.int .i64 h0.f_e)])]) (by kernel_rfl) (by kernel_rfl) ?_
  refine ok_tmpl_reader_end__o0_j1 n x1 h0 o2 ho2 ?_
  refine To.thenN ?_
  refine Wp.region hΓ [] [] [] [] [1000000] (K' := []) (L' := [(1000000, 43, [.str o2.f_s, .val (.int .i64 (IntKind.wrap .i64 (o2.f_at + 1))), .val (.int .i64 o2.f_e)])]) (ob := []) (by kernel_rfl) AllP.nil ?_
  refine To.fin ?_
  refine To.keep (kk := []) (kl := [1000000]) (K' := []) (L' := [(1000000, 43, [.str o2.f_s, .val (.int .i64 (IntKind.wrap .i64 (o2.f_at + 1))), .val (.int .i64 o2.f_e)])]) (by kernel_rfl) (by kernel_rfl) ?_
  cases h
  exact To.doneB hΓ [1000000] (by kernel_rfl) (by kernel_rfl)
def tmpl_reader_reference__o0_j1 (R_tmpl_reader_parts__o0 : Int → S_tmpl_reader → Option ((List (S_tmpl_Part)) × S_tmpl_reader)) (n : Nat) (v1 : Int) (v24 : Bool) (b4 : S_tmpl_Part) (b5 : S_tmpl_Part) (b1000000 : S_tmpl_reader) : Option (S_tmpl_Part × S_tmpl_reader) :=
  if v24 = true then ((R_tmpl_reader_parts__o0 (IntKind.wrap .i64 (v1 + 1)) b1000000).bind fun r4 =>
  some ((S_tmpl_Part.mk b5.f_Name b5.f_Text b5.f_Op r4.1), r4.2))
  else (some (b5, b1000000))
theorem ok_tmpl_reader_reference__o0_j1 (R_tmpl_reader_parts__o0 : Int → S_tmpl_reader → Option ((List (S_tmpl_Part)) × S_tmpl_reader)) (hR_tmpl_reader_parts__o0 : ∀ (a1 : Int) (h0 : S_tmpl_reader) (r : (List (S_tmpl_Part)) × S_tmpl_reader), R_tmpl_reader_parts__o0 a1 h0 = some r → CallsB Tryd.prog 16 [.own 1000000 0, .val (.int .i64 a1)] [(1000000, 43, [.str h0.f_s, .val (.int .i64 h0.f_at), .val (.int .i64 h0.f_e)])] (.recs (α := S_tmpl_Part) (S_tmpl_Part.mk [] [] 0 []) E_tmpl_Part r.1) [(1000000, 43, [.str r.2.f_s, .val (.int .i64 r.2.f_at), .val (.int .i64 r.2.f_e)])]) (n : Nat) (v1 : Int) (v24 : Bool) (b4 : S_tmpl_Part) (b5 : S_tmpl_Part) (b1000000 : S_tmpl_reader) (o : S_tmpl_Part × S_tmpl_reader) (h : tmpl_reader_reference__o0_j1 R_tmpl_reader_parts__o0 n v1 v24 b4 b5 b1000000 = some o) {F0 : Fz} {w0 : Pt Tryd.prog} {Q : Exit → Act → World → Prop} (hQ : To 33 F0 w0 [(0, .own 1000000 0), (4, .own 4 0), (5, .own 5 0)] [(4, 32, [.str b4.f_Name, .str b4.f_Text, .val (.int .i64 b4.f_Op), .tree (α := S_tmpl_Part) (S_tmpl_Part.mk [] [] 0 []) pre_S_tmpl_Part kids_S_tmpl_Part b4.f_Sub]), (5, 32, [.str o.1.f_Name, .str o.1.f_Text, .val (.int .i64 o.1.f_Op), .tree (α := S_tmpl_Part) (S_tmpl_Part.mk [] [] 0 []) pre_S_tmpl_Part kids_S_tmpl_Part o.1.f_Sub]), (1000000, 43, [.str o.2.f_s, .val (.int .i64 o.2.f_at), .val (.int .i64 o.2.f_e)])] .normal Q) : Wp Tryd.prog 33 F0 w0 [(0, .own 1000000 0), (1, .val (.int .i64 v1)), (4, .own 4 0), (5, .own 5 0), (24, .val (.bool v24))] [(4, 32, [.str b4.f_Name, .str b4.f_Text, .val (.int .i64 b4.f_Op), .tree (α := S_tmpl_Part) (S_tmpl_Part.mk [] [] 0 []) pre_S_tmpl_Part kids_S_tmpl_Part b4.f_Sub]), (5, 32, [.str b5.f_Name, .str b5.f_Text, .val (.int .i64 b5.f_Op), .tree (α := S_tmpl_Part) (S_tmpl_Part.mk [] [] 0 []) pre_S_tmpl_Part kids_S_tmpl_Part b5.f_Sub]), (1000000, 43, [.str b1000000.f_s, .val (.int .i64 b1000000.f_at), .val (.int .i64 b1000000.f_e)])] (cB (cB (cA (cB (cB (cB (cB (cF Tryd.f27)))))))) Q := by
  unfold tmpl_reader_reference__o0_j1 at h
  refine Wp.cond (b := v24) (by kernel_rfl) (fun hb => ?_) (fun hb => ?_)
  · replace h := if_t hb h
    obtain ⟨r4, hr4, h⟩ := bind_of h
    refine Wp.region hΓ [] [] [(3, ⟨[(1000000, 1000000)], [(1000000, 1000000)], [.own 1000000 0, .val (.int .i64 (IntKind.wrap .i64 (v1 + 1)))], [(1000000, 43, [.str b1000000.f_s, .val (.int .i64 b1000000.f_at), .val (.int .i64 b1000000.f_e)])], .recs (α := S_tmpl_Part) (S_tmpl_Part.mk [] [] 0 []) E_tmpl_Part r4.1, [(1000000, 43, [.str r4.2.f_s, .val (.int .i64 r4.2.f_at), .val (.int .i64 r4.2.f_e)])]⟩)] [0, 4, 5] [4, 5, 1000000] (K' := [(0, .own 1000000 0), (4, .own 4 0), (5, .own 5 0)]) (L' := [(4, 32, [.str b4.f_Name, .str b4.f_Text, .val (.int .i64 b4.f_Op), .tree (α := S_tmpl_Part) (S_tmpl_Part.mk [] [] 0 []) pre_S_tmpl_Part kids_S_tmpl_Part b4.f_Sub]), (5, 32, [.str b5.f_Name, .str b5.f_Text, .val (.int .i64 b5.f_Op), .recs (α := S_tmpl_Part) (S_tmpl_Part.mk [] [] 0 []) E_tmpl_Part r4.1]), (1000000, 43, [.str r4.2.f_s, .val (.int .i64 r4.2.f_at), .val (.int .i64 r4.2.f_e)])]) (ob := [CbOb (CallsB Tryd.prog) 16 [.own 1000000 0, .val (.int .i64 (IntKind.wrap .i64 (v1 + 1)))] [some (43, [.str b1000000.f_s, .val (.int .i64 b1000000.f_at), .val (.int .i64 b1000000.f_e)])] ⟨[(1000000, 1000000)], [(1000000, 1000000)], [.own 1000000 0, .val (.int .i64 (IntKind.wrap .i64 (v1 + 1)))], [(1000000, 43, [.str b1000000.f_s, .val (.int .i64 b1000000.f_at), .val (.int .i64 b1000000.f_e)])], .recs (α := S_tmpl_Part) (S_tmpl_Part.mk [] [] 0 []) E_tmpl_Part r4.1, [(1000000, 43, [.str r4.2.f_s, .val (.int .i64 r4.2.f_at), .val (.int .i64 r4.2.f_e)])]⟩]) (by kernel_rfl) (AllP.cons (⟨(hR_tmpl_reader_parts__o0 (IntKind.wrap .i64 (v1 + 1)) b1000000 _ hr4), by kernel_rfl, by kernel_rfl⟩) AllP.nil) ?_
    refine To.keep (kk := [0, 4, 5]) (kl := [4, 5, 1000000]) (K' := [(0, .own 1000000 0), (4, .own 4 0), (5, .own 5 0)]) (L' := [(4, 32, [.str b4.f_Name, .str b4.f_Text, .val (.int .i64 b4.f_Op), .tree (α := S_tmpl_Part) (S_tmpl_Part.mk [] [] 0 []) pre_S_tmpl_Part kids_S_tmpl_Part b4.f_Sub]), (5, 32, [.str b5.f_Name, .str b5.f_Text, .val (.int .i64 b5.f_Op), .recs (α := S_tmpl_Part) (S_tmpl_Part.mk [] [] 0 []) E_tmpl_Part r4.1]), (1000000, 43, [.str r4.2.f_s, .val (.int .i64 r4.2.f_at), .val (.int .i64 r4.2.f_e)])]) (by kernel_rfl) (by kernel_rfl) ?_
    refine To.weak (K' := [(0, .own 1000000 0), (4, .own 4 0), (5, .own 5 0)]) (L' := [(4, 32, [.str b4.f_Name, .str b4.f_Text, .val (.int .i64 b4.f_Op), .tree (α := S_tmpl_Part) (S_tmpl_Part.mk [] [] 0 []) pre_S_tmpl_Part kids_S_tmpl_Part b4.f_Sub]), (5, 32, [.str b5.f_Name, .str b5.f_Text, .val (.int .i64 b5.f_Op), .tree (α := S_tmpl_Part) (S_tmpl_Part.mk [] [] 0 []) pre_S_tmpl_Part kids_S_tmpl_Part r4.1]), (1000000, 43, [.str r4.2.f_s, .val (.int .i64 r4.2.f_at), .val (.int .i64 r4.2.f_e)])]) (.cons (.refl _) (.cons (.refl _) (.cons (.refl _) .nil))) (.cons (.cons (.refl _) (.cons (.refl _) (.cons (.refl _) (.cons (.refl _) .nil)))) (.cons (.cons (.refl _) (.cons (.refl _) (.cons (.refl _) (.cons (.close _ _ _ _) .nil)))) (.cons (.cons (.refl _) (.cons (.refl _) (.cons (.refl _) .nil))) .nil))) ?_
    cases h
    exact hQ
  · replace h := if_f hb h
    refine Wp.skip ?_
    refine To.keep (kk := [0, 4, 5]) (kl := [4, 5, 1000000]) (K' := [(0, .own 1000000 0), (4, .own 4 0), (5, .own 5 0)]) (L' := [(4, 32, [.str b4.f_Name, .str b4.f_Text, .val (.int .i64 b4.f_Op), .tree (α := S_tmpl_Part) (S_tmpl_Part.mk [] [] 0 []) pre_S_tmpl_Part kids_S_tmpl_Part b4.f_Sub]), (5, 32, [.str b5.f_Name, .str b5.f_Text, .val (.int .i64 b5.f_Op), .tree (α := S_tmpl_Part) (S_tmpl_Part.mk [] [] 0 []) pre_S_tmpl_Part kids_S_tmpl_Part b5.f_Sub]), (1000000, 43, [.str b1000000.f_s, .val (.int .i64 b1000000.f_at), .val (.int .i64 b1000000.f_e)])]) (by kernel_rfl) (by kernel_rfl) ?_
    cases h
    exact hQ
def tmpl_reader_reference__o0 (R_tmpl_reader_parts__o0 : Int → S_tmpl_reader → Option ((List (S_tmpl_Part)) × S_tmpl_reader)) (n : Nat) (a1 : Int) (h0 : S_tmpl_reader) : Option (S_tmpl_Part × S_tmpl_reader) :=
  lett (tmpl_reader_deeper__o0 a1 h0) fun r1 =>
  if r1.1 = true then (some ((S_tmpl_Part.mk [] [] 0 []), r1.2))
  else ((tmpl_reader_name__o0 n r1.2).bind fun r2 =>
  if (r2.2.f_e != 0) = true then (some ((S_tmpl_Part.mk r2.1 [] 0 []), r2.2))
  else ((tmpl_reader_mark__o0 n r2.2).bind fun r3 =>
  (tmpl_reader_reference__o0_j1 R_tmpl_reader_parts__o0 n a1 (r3.1 != 1) (S_tmpl_Part.mk [] [] 0 []) (S_tmpl_Part.mk r2.1 [] r3.1 []) r3.2).bind fun o4 =>
  (tmpl_reader_end__o0 n o4.2).bind fun r5 =>
  some (o4.1, r5)))
theorem ok_tmpl_reader_reference__o0 (R_tmpl_reader_parts__o0 : Int → S_tmpl_reader → Option ((List (S_tmpl_Part)) × S_tmpl_reader)) (hR_tmpl_reader_parts__o0 : ∀ (a1 : Int) (h0 : S_tmpl_reader) (r : (List (S_tmpl_Part)) × S_tmpl_reader), R_tmpl_reader_parts__o0 a1 h0 = some r → CallsB Tryd.prog 16 [.own 1000000 0, .val (.int .i64 a1)] [(1000000, 43, [.str h0.f_s, .val (.int .i64 h0.f_at), .val (.int .i64 h0.f_e)])] (.recs (α := S_tmpl_Part) (S_tmpl_Part.mk [] [] 0 []) E_tmpl_Part r.1) [(1000000, 43, [.str r.2.f_s, .val (.int .i64 r.2.f_at), .val (.int .i64 r.2.f_e)])]) (n : Nat) (a1 : Int) (h0 : S_tmpl_reader) (r : S_tmpl_Part × S_tmpl_reader) (h : tmpl_reader_reference__o0 R_tmpl_reader_parts__o0 n a1 h0 = some r) : CallsB Tryd.prog 27 [.own 1000000 0, .val (.int .i64 a1)] [(1000000, 43, [.str h0.f_s, .val (.int .i64 h0.f_at), .val (.int .i64 h0.f_e)])] (.agg [.str r.1.f_Name, .str r.1.f_Text, .val (.int .i64 r.1.f_Op), .tree (α := S_tmpl_Part) (S_tmpl_Part.mk [] [] 0 []) pre_S_tmpl_Part kids_S_tmpl_Part r.1.f_Sub]) [(1000000, 43, [.str r.2.f_s, .val (.int .i64 r.2.f_at), .val (.int .i64 r.2.f_e)])] := by
  unfold tmpl_reader_reference__o0 at h
  refine callsB_of (fn := Tryd.f27) (by kernel_rfl) rfl (by kernel_rfl) (Nat.le_of_ble_eq_true (by kernel_rfl)) fun F0 w0 => ?_
  refine Wp.keep (kk := [0, 1]) (kl := [1000000]) (K' := [(0, .own 1000000 0), (1, .val (.int .i64 a1))]) (L' := [(1000000, 43, [.str h0.f_s, .val (.int .i64 h0.f_at), .val (.int .i64 h0.f_e)])]) (by kernel_rfl) (by kernel_rfl) ?_
  refine Wp.seq ?_
  refine Wp.region hΓ [] [] [] [0, 1, 4] [4, 1000000] (K' := [(0, .own 1000000 0), (1, .val (.int .i64 a1)), (4, .own 4 0)]) (L' := [(4, 32, [.str [], .str [], .val (.int .i64 0), .val (.slice none 0 0)]), (1000000, 43, [.str h0.f_s, .val (.int .i64 h0.f_at), .val (.int .i64 h0.f_e)])]) (ob := []) (by kernel_rfl) AllP.nil ?_
  refine To.thenN ?_
  refine Wp.seq ?_
  refine Wp.seq ?_
  obtain ⟨r1, hr1, h⟩ := lett_of h
  refine Wp.region hΓ [] [] [(2, ⟨[(1000000, 1000000)], [(1000000, 1000000)], [.own 1000000 0, .val (.int .i64 a1)], [(1000000, 43, [.str h0.f_s, .val (.int .i64 h0.f_at), .val (.int .i64 h0.f_e)])], .val (.bool r1.1), [(1000000, 43, [.str r1.2.f_s, .val (.int .i64 r1.2.f_at), .val (.int .i64 r1.2.f_e)])]⟩)] [0, 1, 4, 8] [4, 1000000] (K' := [(0, .own 1000000 0), (1, .val (.int .i64 a1)), (4, .own 4 0), (8, .val (.bool r1.1))]) (L' := [(4, 32, [.str [], .str [], .val (.int .i64 0), .val (.slice none 0 0)]), (1000000, 43, [.str r1.2.f_s, .val (.int .i64 r1.2.f_at), .val (.int .i64 r1.2.f_e)])]) (ob := [CbOb (CallsB Tryd.prog) 34 [.own 1000000 0, .val (.int .i64 a1)] [some (43, [.str h0.f_s, .val (.int .i64 h0.f_at), .val (.int .i64 h0.f_e)])] ⟨[(1000000, 1000000)], [(1000000, 1000000)], [.own 1000000 0, .val (.int .i64 a1)], [(1000000, 43, [.str h0.f_s, .val (.int .i64 h0.f_at), .val (.int .i64 h0.f_e)])], .val (.bool r1.1), [(1000000, 43, [.str r1.2.f_s, .val (.int .i64 r1.2.f_at), .val (.int .i64 r1.2.f_e)])]⟩]) (by kernel_rfl) (AllP.cons (⟨(ok_tmpl_reader_deeper__o0 a1 h0 _ hr1), by kernel_rfl, by kernel_rfl⟩) AllP.nil) ?_
  refine To.thenN ?_
  refine Wp.cond (b := r1.1) (by kernel_rfl) (fun hb => ?_) (fun hb => ?_)
  · replace h := if_t hb h
    refine Wp.seq ?_
    refine Wp.region hΓ [] [] [] [4] [4, 1000000] (K' := [(4, .own 4 0)]) (L' := [(4, 32, [.str [], .str [], .val (.int .i64 0), .val (.slice none 0 0)]), (1000000, 43, [.str r1.2.f_s, .val (.int .i64 r1.2.f_at), .val (.int .i64 r1.2.f_e)])]) (ob := []) (by kernel_rfl) AllP.nil ?_
    refine To.thenN ?_
    refine Wp.ret ?_
    refine To.thenR ?_
    refine To.keep (kk := [4]) (kl := [4, 1000000]) (K' := [(4, .own 4 0)]) (L' := [(4, 32, [.str [], .str [], .val (.int .i64 0), .val (.slice none 0 0)]), (1000000, 43, [.str r1.2.f_s, .val (.int .i64 r1.2.f_at), .val (.int .i64 r1.2.f_e)])]) (by kernel_rfl) (by kernel_rfl) ?_
    refine To.weak (K' := [(4, .own 4 0)]) (L' := [(4, 32, [.str [], .str [], .val (.int .i64 0), .tree (α := S_tmpl_Part) (S_tmpl_Part.mk [] [] 0 []) pre_S_tmpl_Part kids_S_tmpl_Part []]), (1000000, 43, [.str r1.2.f_s, .val (.int .i64 r1.2.f_at), .val (.int .i64 r1.2.f_e)])]) (.cons (.refl _) .nil) (.cons (.cons (.refl _) (.cons (.refl _) (.cons (.refl _) (.cons (.zeroT _ _ _) .nil)))) (.cons (.cons (.refl _) (.cons (.refl _) (.cons (.refl _) .nil))) .nil)) ?_
    cases h
    exact To.doneB hΓ [1000000] (by kernel_rfl) (by kernel_rfl)
  · replace h := if_f hb h
    refine Wp.skip ?_
    refine To.thenN ?_
    refine Wp.seq ?_
    obtain ⟨r2, hr2, h⟩ := bind_of h
    refine Wp.region hΓ [] [] [(1, ⟨[(1000000, 1000000)], [(1000000, 1000000)], [.own 1000000 0], [(1000000, 43, [.str r1.2.f_s, .val (.int .i64 r1.2.f_at), .val (.int .i64 r1.2.f_e)])], .str r2.1, [(1000000, 43, [.str r2.2.f_s, .val (.int .i64 r2.2.f_at), .val (.int .i64 r2.2.f_e)])]⟩)] [0, 1, 4, 5] [4, 5, 1000000] (K' := [(0, .own 1000000 0), (1, .val (.int .i64 a1)), (4, .own 4 0), (5, .own 5 0)]) (L' := [(4, 32, [.str [], .str [], .val (.int .i64 0), .val (.slice none 0 0)]), (5, 32, [.str r2.1, .str [], .val (.int .i64 0), .val (.slice none 0 0)]), (1000000, 43, [.str r2.2.f_s, .val (.int .i64 r2.2.f_at), .val (.int .i64 r2.2.f_e)])]) (ob := [CbOb (CallsB Tryd.prog) 35 [.own 1000000 0] [some (43, [.str r1.2.f_s, .val (.int .i64 r1.2.f_at), .val (.int .i64 r1.2.f_e)])] ⟨[(1000000, 1000000)], [(1000000, 1000000)], [.own 1000000 0], [(1000000, 43, [.str r1.2.f_s, .val (.int .i64 r1.2.f_at), .val (.int .i64 r1.2.f_e)])], .str r2.1, [(1000000, 43, [.str r2.2.f_s, .val (.int .i64 r2.2.f_at), .val (.int .i64 r2.2.f_e)])]⟩]) (by kernel_rfl) (AllP.cons (⟨(ok_tmpl_reader_name__o0 n r1.2 _ hr2), by kernel_rfl, by kernel_rfl⟩) AllP.nil) ?_
    refine To.thenN ?_
    refine Wp.seq ?_
    refine Wp.seq ?_
    refine Wp.region hΓ [] [] [] [0, 1, 4, 5, 17] [4, 5, 1000000] (K' := [(0, .own 1000000 0), (1, .val (.int .i64 a1)), (4, .own 4 0), (5, .own 5 0), (17, .val (.bool (r2.2.f_e != 0)))]) (L' := [(4, 32, [.str [], .str [], .val (.int .i64 0), .val (.slice none 0 0)]), (5, 32, [.str r2.1, .str [], .val (.int .i64 0), .val (.slice none 0 0)]), (1000000, 43, [.str r2.2.f_s, .val (.int .i64 r2.2.f_at), .val (.int .i64 r2.2.f_e)])]) (ob := []) (by kernel_rfl) AllP.nil ?_
    refine To.thenN ?_
    refine Wp.cond (b := (r2.2.f_e != 0)) (by kernel_rfl) (fun hb => ?_) (fun hb => ?_)
    · replace h := if_t hb h
      refine Wp.seq ?_
      refine Wp.region hΓ [] [] [] [4] [4, 1000000] (K' := [(4, .own 4 0)]) (L' := [(4, 32, [.str r2.1, .str [], .val (.int .i64 0), .val (.slice none 0 0)]), (1000000, 43, [.str r2.2.f_s, .val (.int .i64 r2.2.f_at), .val (.int .i64 r2.2.f_e)])]) (ob := []) (by kernel_rfl) AllP.nil ?_
      refine To.thenN ?_
      refine Wp.ret ?_
      refine To.thenR ?_
      refine To.keep (kk := [4]) (kl := [4, 1000000]) (K' := [(4, .own 4 0)]) (L' := [(4, 32, [.str r2.1, .str [], .val (.int .i64 0), .val (.slice none 0 0)]), (1000000, 43, [.str r2.2.f_s, .val (.int .i64 r2.2.f_at), .val (.int .i64 r2.2.f_e)])]) (by kernel_rfl) (by kernel_rfl) ?_
      refine To.weak (K' := [(4, .own 4 0)]) (L' := [(4, 32, [.str r2.1, .str [], .val (.int .i64 0), .tree (α := S_tmpl_Part) (S_tmpl_Part.mk [] [] 0 []) pre_S_tmpl_Part kids_S_tmpl_Part []]), (1000000, 43, [.str r2.2.f_s, .val (.int .i64 r2.2.f_at), .val (.int .i64 r2.2.f_e)])]) (.cons (.refl _) .nil) (.cons (.cons (.refl _) (.cons (.refl _) (.cons (.refl _) (.cons (.zeroT _ _ _) .nil)))) (.cons (.cons (.refl _) (.cons (.refl _) (.cons (.refl _) .nil))) .nil)) ?_
      cases h
      exact To.doneB hΓ [1000000] (by kernel_rfl) (by kernel_rfl)
    · replace h := if_f hb h
      refine Wp.skip ?_
      refine To.thenN ?_
      refine Wp.seq ?_
      refine Wp.seq ?_
      obtain ⟨r3, hr3, h⟩ := bind_of h
      refine Wp.region hΓ [] [] [(1, ⟨[(1000000, 1000000)], [(1000000, 1000000)], [.own 1000000 0], [(1000000, 43, [.str r2.2.f_s, .val (.int .i64 r2.2.f_at), .val (.int .i64 r2.2.f_e)])], .val (.int .i64 r3.1), [(1000000, 43, [.str r3.2.f_s, .val (.int .i64 r3.2.f_at), .val (.int .i64 r3.2.f_e)])]⟩)] [0, 1, 4, 5] [4, 5, 1000000] (K' := [(0, .own 1000000 0), (1, .val (.int .i64 a1)), (4, .own 4 0), (5, .own 5 0)]) (L' := [(4, 32, [.str [], .str [], .val (.int .i64 0), .val (.slice none 0 0)]), (5, 32, [.str r2.1, .str [], .val (.int .i64 r3.1), .val (.slice none 0 0)]), (1000000, 43, [.str r3.2.f_s, .val (.int .i64 r3.2.f_at), .val (.int .i64 r3.2.f_e)])]) (ob := [CbOb (CallsB Tryd.prog) 36 [.own 1000000 0] [some (43, [.str r2.2.f_s, .val (.int .i64 r2.2.f_at), .val (.int .i64 r2.2.f_e)])] ⟨[(1000000, 1000000)], [(1000000, 1000000)], [.own 1000000 0], [(1000000, 43, [.str r2.2.f_s, .val (.int .i64 r2.2.f_at), .val (.int .i64 r2.2.f_e)])], .val (.int .i64 r3.1), [(1000000, 43, [.str r3.2.f_s, .val (.int .i64 r3.2.f_at), .val (.int .i64 r3.2.f_e)])]⟩]) (by kernel_rfl) (AllP.cons (⟨(ok_tmpl_reader_mark__o0 n r2.2 _ hr3), by kernel_rfl, by kernel_rfl⟩) AllP.nil) ?_
      refine To.thenN ?_
      refine Wp.seq ?_
      refine Wp.region hΓ [] [] [] [0, 1, 4, 5, 24] [4, 5, 1000000] (K' := [(0, .own 1000000 0), (1, .val (.int .i64 a1)), (4, .own 4 0), (5, .own 5 0), (24, .val (.bool (r3.1 != 1)))]) (L' := [(4, 32, [.str [], .str [], .val (.int .i64 0), .val (.slice none 0 0)]), (5, 32, [.str r2.1, .str [], .val (.int .i64 r3.1), .val (.slice none 0 0)]), (1000000, 43, [.str r3.2.f_s, .val (.int .i64 r3.2.f_at), .val (.int .i64 r3.2.f_e)])]) (ob := []) (by kernel_rfl) AllP.nil ?_
      refine To.thenN ?_
      obtain ⟨o4, ho4, h⟩ := bind_of h
      refine Wp.keep (kk := [0, 1, 4, 5, 24]) (kl := [4, 5, 1000000]) (K' := [(0, .own 1000000 0), (1, .val (.int .i64 a1)), (4, .own 4 0), (5, .own 5 0), (24, .val (.bool (r3.1 != 1)))]) (L' := [(4, 32, [.str [], .str [], .val (.int .i64 0), .val (.slice none 0 0)]), (5, 32, [.str r2.1, .str [], .val (.int .i64 r3.1), .val (.slice none 0 0)]), (1000000, 43, [.str r3.2.f_s, .val (.int .i64 r3.2.f_at), .val (.int .i64 r3.2.f_e)])]) (by kernel_rfl) (by kernel_rfl) ?_
      refine Wp.weak (K' := [(0, .own 1000000 0), (1, .val (.int .i64 a1)), (4, .own 4 0), (5, .own 5 0), (24, .val (.bool (r3.1 != 1)))]) (L' := [(4, 32, [.str [], .str [], .val (.int .i64 0), .tree (α := S_tmpl_Part) (S_tmpl_Part.mk [] [] 0 []) pre_S_tmpl_Part kids_S_tmpl_Part []]), (5, 32, [.str r2.1, .str [], .val (.int .i64 r3.1), .tree (α := S_tmpl_Part) (S_tmpl_Part.mk [] [] 0 []) pre_S_tmpl_Part kids_S_tmpl_Part []]), (1000000, 43, [.str r3.2.f_s, .val (.int .i64 r3.2.f_at), .val (.int .i64 r3.2.f_e)])]) (.cons (.refl _) (.cons (.refl _) (.cons (.refl _) (.cons (.refl _) (.cons (.refl _) .nil))))) (.cons (.cons (.refl _) (.cons (.refl _) (.cons (.refl _) (.cons (.zeroT _ _ _) .nil)))) (.cons (.cons (.refl _) (.cons (.refl _) (.cons (.refl _) (.cons (.zeroT _ _ _) .nil)))) (.cons (.cons (.refl _) (.cons (.refl _) (.cons (.refl _) .nil))) .nil))) ?_
      refine ok_tmpl_reader_reference__o0_j1 R_tmpl_reader_parts__o0 hR_tmpl_reader_parts__o0 n a1 (r3.1 != 1) (S_tmpl_Part.mk [] [] 0 []) (S_tmpl_Part.mk r2.1 [] r3.1 []) r3.2 o4 ho4 ?_
      refine To.thenN ?_
      refine Wp.seq ?_
      obtain ⟨r5, hr5, h⟩ := bind_of h
      refine Wp.region hΓ [] [] [(1, ⟨[(1000000, 1000000)], [(1000000, 1000000)], [.own 1000000 0], [(1000000, 43, [.str o4.2.f_s, .val (.int .i64 o4.2.f_at), .val (.int .i64 o4.2.f_e)])], .tup [], [(1000000, 43, [.str r5.f_s, .val (.int .i64 r5.f_at), .val (.int .i64 r5.f_e)])]⟩)] [4, 5] [4, 5, 1000000] (K' := [(4, .own 4 0), (5, .own 5 0)]) (L' := [(4, 32, [.str [], .str [], .val (.int .i64 0), .tree (α := S_tmpl_Part) (S_tmpl_Part.mk [] [] 0 []) pre_S_tmpl_Part kids_S_tmpl_Part []]), (5, 32, [.str o4.1.f_Name, .str o4.1.f_Text, .val (.int .i64 o4.1.f_Op), .tree (α := S_tmpl_Part) (S_tmpl_Part.mk [] [] 0 []) pre_S_tmpl_Part kids_S_tmpl_Part o4.1.f_Sub]), (1000000, 43, [.str r5.f_s, .val (.int .i64 r5.f_at), .val (.int .i64 r5.f_e)])]) (ob := [CbOb (CallsB Tryd.prog) 37 [.own 1000000 0] [some (43, [.str o4.2.f_s, .val (.int .i64 o4.2.f_at), .val (.int .i64 o4.2.f_e)])] ⟨[(1000000, 1000000)], [(1000000, 1000000)], [.own 1000000 0], [(1000000, 43, [.str o4.2.f_s, .val (.int .i64 o4.2.f_at), .val (.int .i64 o4.2.f_e)])], .tup [], [(1000000, 43, [.str r5.f_s, .val (.int .i64 r5.f_at), .val (.int .i64 r5.f_e)])]⟩]) (by kernel_rfl) (AllP.cons (⟨(ok_tmpl_reader_end__o0 n o4.2 _ hr5), by kernel_rfl, by kernel_rfl⟩) AllP.nil) ?_
      refine To.thenN ?_
      refine Wp.seq ?_
      refine Wp.region hΓ [] [] [] [4] [4, 1000000] (K' := [(4, .own 4 0)]) (L' := [(4, 32, [.str o4.1.f_Name, .str o4.1.f_Text, .val (.int .i64 o4.1.f_Op), .tree (α := S_tmpl_Part) (S_tmpl_Part.mk [] [] 0 []) pre_S_tmpl_Part kids_S_tmpl_Part o4.1.f_Sub]), (1000000, 43, [.str r5.f_s, .val (.int .i64 r5.f_at), .val (.int .i64 r5.f_e)])]) (ob := []) (by kernel_rfl) AllP.nil ?_
      refine To.thenN ?_
      refine Wp.ret ?_
      refine To.keep (kk := [4]) (kl := [4, 1000000]) (K' := [(4, .own 4 0)]) (L' := [(4, 32, [.str o4.1.f_Name, .str o4.1.f_Text, .val (.int .i64 o4.1.f_Op), .tree (α := S_tmpl_Part) (S_tmpl_Part.mk [] [] 0 []) pre_S_tmpl_Part kids_S_tmpl_Part o4.1.f_Sub]), (1000000, 43, [.str r5.f_s, .val (.int .i64 r5.f_at), .val (.int .i64 r5.f_e)])]) (by kernel_rfl) (by kernel_rfl) ?_
      cases h
      exact To.doneB hΓ [1000000] (by kernel_rfl) (by kernel_rfl)
def tmpl_reader_plain__o0 (n : Nat) (a1 : Int) (h0 : S_tmpl_reader) : Option (S_tmpl_Part × S_tmpl_reader) :=
  lett (tmpl_reader_deeper__o0 a1 h0) fun r1 =>
  if r1.1 = true then (some ((S_tmpl_Part.mk [] [] 0 []), r1.2))
  else ((tmpl_reader_name__o0 n r1.2).bind fun r2 =>
  some ((S_tmpl_Part.mk r2.1 [] 1 []), r2.2))
theorem ok_tmpl_reader_plain__o0 (n : Nat) (a1 : Int) (h0 : S_tmpl_reader) (r : S_tmpl_Part × S_tmpl_reader) (h : tmpl_reader_plain__o0 n a1 h0 = some r) : CallsB Tryd.prog 28 [.own 1000000 0, .val (.int .i64 a1)] [(1000000, 43, [.str h0.f_s, .val (.int .i64 h0.f_at), .val (.int .i64 h0.f_e)])] (.agg [.str r.1.f_Name, .str r.1.f_Text, .val (.int .i64 r.1.f_Op), .tree (α := S_tmpl_Part) (S_tmpl_Part.mk [] [] 0 []) pre_S_tmpl_Part kids_S_tmpl_Part r.1.f_Sub]) [(1000000, 43, [.str r.2.f_s, .val (.int .i64 r.2.f_at), .val (.int .i64 r.2.f_e)])] := by
  unfold tmpl_reader_plain__o0 at h
  refine callsB_of (fn := Tryd.f28) (by kernel_rfl) rfl (by kernel_rfl) (Nat.le_of_ble_eq_true (by kernel_rfl)) fun F0 w0 => ?_
  refine Wp.keep (kk := [0, 1]) (kl := [1000000]) (K' := [(0, .own 1000000 0), (1, .val (.int .i64 a1))]) (L' := [(1000000, 43, [.str h0.f_s, .val (.int .i64 h0.f_at), .val (.int .i64 h0.f_e)])]) (by kernel_rfl) (by kernel_rfl) ?_
  refine Wp.seq ?_
  refine Wp.region hΓ [] [] [] [0, 1, 4] [4, 1000000] (K' := [(0, .own 1000000 0), (1, .val (.int .i64 a1)), (4, .own 4 0)]) (L' := [(4, 32, [.str [], .str [], .val (.int .i64 0), .val (.slice none 0 0)]), (1000000, 43, [.str h0.f_s, .val (.int .i64 h0.f_at), .val (.int .i64 h0.f_e)])]) (ob := []) (by kernel_rfl) AllP.nil ?_
  refine To.thenN ?_
  refine Wp.seq ?_
  refine Wp.seq ?_
  obtain ⟨r1, hr1, h⟩ := lett_of h
  refine Wp.region hΓ [] [] [(2, ⟨[(1000000, 1000000)], [(1000000, 1000000)], [.own 1000000 0, .val (.int .i64 a1)], [(1000000, 43, [.str h0.f_s, .val (.int .i64 h0.f_at), .val (.int .i64 h0.f_e)])], .val (.bool r1.1), [(1000000, 43, [.str r1.2.f_s, .val (.int .i64 r1.2.f_at), .val (.int .i64 r1.2.f_e)])]⟩)] [0, 4, 7] [4, 1000000] (K' := [(0, .own 1000000 0), (4, .own 4 0), (7, .val (.bool r1.1))]) (L' := [(4, 32, [.str [], .str [], .val (.int .i64 0), .val (.slice none 0 0)]), (1000000, 43, [.str r1.2.f_s, .val (.int .i64 r1.2.f_at), .val (.int .i64 r1.2.f_e)])]) (ob := [CbOb (CallsB Tryd.prog) 34 [.own 1000000 0, .val (.int .i64 a1)] [some (43, [.str h0.f_s, .val (.int .i64 h0.f_at), .val (.int .i64 h0.f_e)])] ⟨[(1000000, 1000000)], [(1000000, 1000000)], [.own 1000000 0, .val (.int .i64 a1)], [(1000000, 43, [.str h0.f_s, .val (.int .i64 h0.f_at), .val (.int .i64 h0.f_e)])], .val (.bool r1.1), [(1000000, 43, [.str r1.2.f_s, .val (.int .i64 r1.2.f_at), .val (.int .i64 r1.2.f_e)])]⟩]) (by kernel_rfl) (AllP.cons (⟨(ok_tmpl_reader_deeper__o0 a1 h0 _ hr1), by kernel_rfl, by kernel_rfl⟩) AllP.nil) ?_
  refine To.thenN ?_
  refine Wp.cond (b := r1.1) (by kernel_rfl) (fun hb => ?_) (fun hb => ?_)
  · replace h := if_t hb h
    refine Wp.seq ?_
    refine Wp.region hΓ [] [] [] [4] [4, 1000000] (K' := [(4, .own 4 0)]) (L' := [(4, 32, [.str [], .str [], .val (.int .i64 0), .val (.slice none 0 0)]), (1000000, 43, [.str r1.2.f_s, .val (.int .i64 r1.2.f_at), .val (.int .i64 r1.2.f_e)])]) (ob := []) (by kernel_rfl) AllP.nil ?_
    refine To.thenN ?_
    refine Wp.ret ?_
    refine To.thenR ?_
    refine To.keep (kk := [4]) (kl := [4, 1000000]) (K' := [(4, .own 4 0)]) (L' := [(4, 32, [.str [], .str [], .val (.int .i64 0), .val (.slice none 0 0)]), (1000000, 43, [.str r1.2.f_s, .val (.int .i64 r1.2.f_at), .val (.int .i64 r1.2.f_e)])]) (by kernel_rfl) (by kernel_rfl) ?_
    refine To.weak (K' := [(4, .own 4 0)]) (L' := [(4, 32, [.str [], .str [], .val (.int .i64 0), .tree (α := S_tmpl_Part) (S_tmpl_Part.mk [] [] 0 []) pre_S_tmpl_Part kids_S_tmpl_Part []]), (1000000, 43, [.str r1.2.f_s, .val (.int .i64 r1.2.f_at), .val (.int .i64 r1.2.f_e)])]) (.cons (.refl _) .nil) (.cons (.cons (.refl _) (.cons (.refl _) (.cons (.refl _) (.cons (.zeroT _ _ _) .nil)))) (.cons (.cons (.refl _) (.cons (.refl _) (.cons (.refl _) .nil))) .nil)) ?_
    cases h
    exact To.doneB hΓ [1000000] (by kernel_rfl) (by kernel_rfl)
  · replace h := if_f hb h
    refine Wp.skip ?_
    refine To.thenN ?_
    refine Wp.seq ?_
    obtain ⟨r2, hr2, h⟩ := bind_of h
    refine Wp.region hΓ [] [] [(1, ⟨[(1000000, 1000000)], [(1000000, 1000000)], [.own 1000000 0], [(1000000, 43, [.str r1.2.f_s, .val (.int .i64 r1.2.f_at), .val (.int .i64 r1.2.f_e)])], .str r2.1, [(1000000, 43, [.str r2.2.f_s, .val (.int .i64 r2.2.f_at), .val (.int .i64 r2.2.f_e)])]⟩)] [4] [4, 1000000] (K' := [(4, .own 4 0)]) (L' := [(4, 32, [.str r2.1, .str [], .val (.int .i64 1), .val (.slice none 0 0)]), (1000000, 43, [.str r2.2.f_s, .val (.int .i64 r2.2.f_at), .val (.int .i64 r2.2.f_e)])]) (ob := [CbOb (CallsB Tryd.prog) 35 [.own 1000000 0] [some (43, [.str r1.2.f_s, .val (.int .i64 r1.2.f_at), .val (.int .i64 r1.2.f_e)])] ⟨[(1000000, 1000000)], [(1000000, 1000000)], [.own 1000000 0], [(1000000, 43, [.str r1.2.f_s, .val (.int .i64 r1.2.f_at), .val (.int .i64 r1.2.f_e)])], .str r2.1, [(1000000, 43, [.str r2.2.f_s, .val (.int .i64 r2.2.f_at), .val (.int .i64 r2.2.f_e)])]⟩]) (by kernel_rfl) (AllP.cons (⟨(ok_tmpl_reader_name__o0 n r1.2 _ hr2), by kernel_rfl, by kernel_rfl⟩) AllP.nil) ?_
    refine To.thenN ?_
    refine Wp.ret ?_
    refine To.keep (kk := [4]) (kl := [4, 1000000]) (K' := [(4, .own 4 0)]) (L' := [(4, 32, [.str r2.1, .str [], .val (.int .i64 1), .val (.slice none 0 0)]), (1000000, 43, [.str r2.2.f_s, .val (.int .i64 r2.2.f_at), .val (.int .i64 r2.2.f_e)])]) (by kernel_rfl) (by kernel_rfl) ?_
    refine To.weak (K' := [(4, .own 4 0)]) (L' := [(4, 32, [.str r2.1, .str [], .val (.int .i64 1), .tree (α := S_tmpl_Part) (S_tmpl_Part.mk [] [] 0 []) pre_S_tmpl_Part kids_S_tmpl_Part []]), (1000000, 43, [.str r2.2.f_s, .val (.int .i64 r2.2.f_at), .val (.int .i64 r2.2.f_e)])]) (.cons (.refl _) .nil) (.cons (.cons (.refl _) (.cons (.refl _) (.cons (.refl _) (.cons (.zeroT _ _ _) .nil)))) (.cons (.cons (.refl _) (.cons (.refl _) (.cons (.refl _) .nil))) .nil)) ?_
    cases h
    exact To.doneB hΓ [1000000] (by kernel_rfl) (by kernel_rfl)
def tmpl_reader_parts__o0_j2 (R_tmpl_reader_parts__o0 : Int → S_tmpl_reader → Option ((List (S_tmpl_Part)) × S_tmpl_reader)) (n : Nat) (v1 : Int) (v8 : Int) (b5 : List (S_tmpl_Part)) (b6 : List (UInt8)) (b1000000 : S_tmpl_reader) : Option ((List (S_tmpl_Part)) × (List (UInt8)) × S_tmpl_reader) :=
  if (decide (0 ≤ b1000000.f_at ∧ b1000000.f_at ≤ (List.length b1000000.f_s : Int))) = true then (if (Lib.hasPrefix (List.drop (Int.toNat b1000000.f_at) b1000000.f_s) ([36] : List UInt8)) = true then (if (decide (0 ≤ v8 ∧ v8 < 256)) = true then (if (decide ((List.length b6 + List.length ([(UInt8.ofNat (Int.toNat v8))] : List (UInt8))) * (1 + 1) ≤ limit)) = true then (some (b5, (b6 ++ ([(UInt8.ofNat (Int.toNat v8))] : List (UInt8))), (S_tmpl_reader.mk b1000000.f_s (IntKind.wrap .i64 (b1000000.f_at + 1)) b1000000.f_e))) else none) else none)
  else (if (decide (0 ≤ b1000000.f_at ∧ b1000000.f_at ≤ (List.length b1000000.f_s : Int))) = true then (if (Lib.hasPrefix (List.drop (Int.toNat b1000000.f_at) b1000000.f_s) ([123] : List UInt8)) = true then ((tmpl_reader_parts_1__o0__o1 n b6 b5).bind fun r6 =>
  (tmpl_reader_reference__o0 R_tmpl_reader_parts__o0 n v1 (S_tmpl_reader.mk b1000000.f_s (IntKind.wrap .i64 (b1000000.f_at + 1)) b1000000.f_e)).bind fun r7 =>
  if (decide ((List.length r6.2 + List.length ([(S_tmpl_Part.mk [] [] 0 [])] : List (S_tmpl_Part))) * (64 + 1) ≤ limit)) = true then (if (decide (0 ≤ (List.length r6.2 : Int) ∧ (List.length r6.2 : Int) < (List.length (r6.2 ++ ([(S_tmpl_Part.mk [] [] 0 [])] : List (S_tmpl_Part))) : Int))) = true then (some ((List.set (r6.2 ++ ([(S_tmpl_Part.mk [] [] 0 [])] : List (S_tmpl_Part))) (Int.toNat (List.length r6.2 : Int)) r7.1), r6.1, r7.2)) else none) else none)
  else ((tmpl_reader_parts_1__o0__o1 n b6 b5).bind fun r10 =>
  (tmpl_reader_plain__o0 n v1 b1000000).bind fun r11 =>
  if (decide ((List.length r10.2 + List.length ([(S_tmpl_Part.mk [] [] 0 [])] : List (S_tmpl_Part))) * (64 + 1) ≤ limit)) = true then (if (decide (0 ≤ (List.length r10.2 : Int) ∧ (List.length r10.2 : Int) < (List.length (r10.2 ++ ([(S_tmpl_Part.mk [] [] 0 [])] : List (S_tmpl_Part))) : Int))) = true then (some ((List.set (r10.2 ++ ([(S_tmpl_Part.mk [] [] 0 [])] : List (S_tmpl_Part))) (Int.toNat (List.length r10.2 : Int)) r11.1), r10.1, r11.2)) else none) else none)) else none)) else none
theorem ok_tmpl_reader_parts__o0_j2 (R_tmpl_reader_parts__o0 : Int → S_tmpl_reader → Option ((List (S_tmpl_Part)) × S_tmpl_reader)) (hR_tmpl_reader_parts__o0 : ∀ (a1 : Int) (h0 : S_tmpl_reader) (r : (List (S_tmpl_Part)) × S_tmpl_reader), R_tmpl_reader_parts__o0 a1 h0 = some r → CallsB Tryd.prog 16 [.own 1000000 0, .val (.int .i64 a1)] [(1000000, 43, [.str h0.f_s, .val (.int .i64 h0.f_at), .val (.int .i64 h0.f_e)])] (.recs (α := S_tmpl_Part) (S_tmpl_Part.mk [] [] 0 []) E_tmpl_Part r.1) [(1000000, 43, [.str r.2.f_s, .val (.int .i64 r.2.f_at), .val (.int .i64 r.2.f_e)])]) (n : Nat) (v1 : Int) (v8 : Int) (b5 : List (S_tmpl_Part)) (b6 : List (UInt8)) (b1000000 : S_tmpl_reader) (o : (List (S_tmpl_Part)) × (List (UInt8)) × S_tmpl_reader) (h : tmpl_reader_parts__o0_j2 R_tmpl_reader_parts__o0 n v1 v8 b5 b6 b1000000 = some o) {F0 : Fz} {w0 : Pt Tryd.prog} {Q : Exit → Act → World → Prop} (hQ : To 128 F0 w0 [(0, .own 1000000 0), (1, .val (.int .i64 v1)), (5, .own 5 0), (6, .own 6 0), (7, .fn 25 [.own 6 0, .own 5 0])] [(5, 23, [.row 4300]), (6, 46, [.row 4360]), (4300, 32, [.rowc false (α := S_tmpl_Part) (S_tmpl_Part.mk [] [] 0 []) E_tmpl_Part o.1]), (4360, 5, [.rowc false (α := UInt8) 0 e8 o.2.1]), (1000000, 43, [.str o.2.2.f_s, .val (.int .i64 o.2.2.f_at), .val (.int .i64 o.2.2.f_e)])] .normal Q) : Wp Tryd.prog 128 F0 w0 [(0, .own 1000000 0), (1, .val (.int .i64 v1)), (5, .own 5 0), (6, .own 6 0), (7, .fn 25 [.own 6 0, .own 5 0]), (8, .val (.int .u8 v8))] [(5, 23, [.row 4300]), (6, 46, [.row 4360]), (4300, 32, [.rowc false (α := S_tmpl_Part) (S_tmpl_Part.mk [] [] 0 []) E_tmpl_Part b5]), (4360, 5, [.rowc false (α := UInt8) 0 e8 b6]), (1000000, 43, [.str b1000000.f_s, .val (.int .i64 b1000000.f_at), .val (.int .i64 b1000000.f_e)])] (cA (cB (cB (cB (cB (cB (cB (cB (cB (cI (cB (cF Tryd.f16)))))))))))) Q := by
  unfold tmpl_reader_parts__o0_j2 at h
  refine Wp.block ?_
  refine Wp.seq ?_
  obtain ⟨hc15, h⟩ := chk_of h
  refine Wp.regionD hm hΓ [(9, .val (.bool (Lib.hasPrefix (List.drop (Int.toNat b1000000.f_at) b1000000.f_s) ([36] : List UInt8))))] [0, 1, 5, 6, 7, 8, 78] [5, 6, 4300, 4360, 1000000] (K' := [(0, .own 1000000 0), (1, .val (.int .i64 v1)), (5, .own 5 0), (6, .own 6 0), (7, .fn 25 [.own 6 0, .own 5 0]), (8, .val (.int .u8 v8)), (78, .val (.bool (Lib.hasPrefix (List.drop (Int.toNat b1000000.f_at) b1000000.f_s) ([36] : List UInt8))))]) (L' := [(5, 23, [.row 4300]), (6, 46, [.row 4360]), (4300, 32, [.rowc false (α := S_tmpl_Part) (S_tmpl_Part.mk [] [] 0 []) E_tmpl_Part b5]), (4360, 5, [.rowc false (α := UInt8) 0 e8 b6]), (1000000, 43, [.str b1000000.f_s, .val (.int .i64 b1000000.f_at), .val (.int .i64 b1000000.f_e)])]) (ob := [(decide (0 ≤ b1000000.f_at ∧ b1000000.f_at ≤ (List.length b1000000.f_s : Int))) = true, (true = true → CX Tryd.prog 26 [.str (List.drop (Int.toNat b1000000.f_at) b1000000.f_s), .str [36]] (.val (.bool (Lib.hasPrefix (List.drop (Int.toNat b1000000.f_at) b1000000.f_s) ([36] : List UInt8)))))]) (by kernel_rfl) (AllP.cons hc15 (AllP.cons (fun _ => cx (Sh.hasPrefix26)) AllP.nil)) ?_
  refine To.thenN ?_
  refine Wp.cond (b := (Lib.hasPrefix (List.drop (Int.toNat b1000000.f_at) b1000000.f_s) ([36] : List UInt8))) (by kernel_rfl) (fun hb => ?_) (fun hb => ?_)
  · replace h := if_t hb h
    refine Wp.seq ?_
    obtain ⟨u4, h⟩ := chk_of h
    obtain ⟨hc5, h⟩ := chk_of h
    refine Wp.region hΓ [] [(2, .recs (α := UInt8) 0 e8 [(UInt8.ofNat (Int.toNat v8))]), (3, .recs (α := UInt8) 0 e8 (b6 ++ ([(UInt8.ofNat (Int.toNat v8))] : List (UInt8))))] [] [0, 1, 5, 6, 7] [5, 6, 92, 4300, 1000000] (K' := [(0, .own 1000000 0), (1, .val (.int .i64 v1)), (5, .own 5 0), (6, .own 6 0), (7, .fn 25 [.own 6 0, .own 5 0])]) (L' := [(5, 23, [.row 4300]), (6, 46, [.row 92]), (92, 5, [.rowc false (α := UInt8) 0 e8 (b6 ++ ([(UInt8.ofNat (Int.toNat v8))] : List (UInt8)))]), (4300, 32, [.rowc false (α := S_tmpl_Part) (S_tmpl_Part.mk [] [] 0 []) E_tmpl_Part b5]), (1000000, 43, [.str b1000000.f_s, .val (.int .i64 b1000000.f_at), .val (.int .i64 b1000000.f_e)])]) (ob := [(MkOb 1 [.val (.int .u8 v8)] 1 (.recs (α := UInt8) 0 e8 [(UInt8.ofNat (Int.toNat v8))]) ∧ GoodR (.recs (α := UInt8) 0 e8 [(UInt8.ofNat (Int.toNat v8))])), (decide ((List.length b6 + List.length ([(UInt8.ofNat (Int.toNat v8))] : List (UInt8))) * (1 + 1) ≤ limit)) = true, (AppOb 0 e8 b6 (List.flatMap e8 ([(UInt8.ofNat (Int.toNat v8))] : List (UInt8))) (List.length ([(UInt8.ofNat (Int.toNat v8))] : List (UInt8))) (.recs (α := UInt8) 0 e8 (b6 ++ ([(UInt8.ofNat (Int.toNat v8))] : List (UInt8)))) ∧ GoodR (.recs (α := UInt8) 0 e8 (b6 ++ ([(UInt8.ofNat (Int.toNat v8))] : List (UInt8)))))]) (by kernel_rfl) (AllP.cons (mkOb (All8.cells (ns := [v8]) (.cons (u8_of u4) .nil)) rfl rfl (good8 _)) (AllP.cons hc5 (AllP.cons (appOb rfl rfl (good8 _)) AllP.nil))) ?_
    refine To.thenN ?_
    refine Wp.region hΓ [] [] [] [0, 1, 5, 6, 7] [5, 6, 92, 4300, 1000000] (K' := [(0, .own 1000000 0), (1, .val (.int .i64 v1)), (5, .own 5 0), (6, .own 6 0), (7, .fn 25 [.own 6 0, .own 5 0])]) (L' := [(5, 23, [.row 4300]), (6, 46, [.row 92]), (92, 5, [.rowc false (α := UInt8) 0 e8 (b6 ++ ([(UInt8.ofNat (Int.toNat v8))] : List (UInt8)))]), (4300, 32, [.rowc false (α := S_tmpl_Part) (S_tmpl_Part.mk [] [] 0 []) E_tmpl_Part b5]), (1000000, 43, [.str b1000000.f_s, .val (.int .i64 (IntKind.wrap .i64 (b1000000.f_at + 1))), .val (.int .i64 b1000000.f_e)])]) (ob := []) (by kernel_rfl) AllP.nil ?_
    refine To.blockN ?_
    refine To.keep (kk := [0, 1, 5, 6, 7]) (kl := [5, 6, 92, 4300, 1000000]) (K' := [(0, .own 1000000 0), (1, .val (.int .i64 v1)), (5, .own 5 0), (6, .own 6 0), (7, .fn 25 [.own 6 0, .own 5 0])]) (L' := [(5, 23, [.row 4300]), (6, 46, [.row 92]), (92, 5, [.rowc false (α := UInt8) 0 e8 (b6 ++ ([(UInt8.ofNat (Int.toNat v8))] : List (UInt8)))]), (4300, 32, [.rowc false (α := S_tmpl_Part) (S_tmpl_Part.mk [] [] 0 []) E_tmpl_Part b5]), (1000000, 43, [.str b1000000.f_s, .val (.int .i64 (IntKind.wrap .i64 (b1000000.f_at + 1))), .val (.int .i64 b1000000.f_e)])]) (by kernel_rfl) (by kernel_rfl) ?_
    refine To.pre (St.rename 92 4360 (by decide) (K' := [(0, .own 1000000 0), (1, .val (.int .i64 v1)), (5, .own 5 0), (6, .own 6 0), (7, .fn 25 [.own 6 0, .own 5 0])]) (L' := [(5, 23, [.row 4300]), (6, 46, [.row 4360]), (4360, 5, [.rowc false (α := UInt8) 0 e8 (b6 ++ ([(UInt8.ofNat (Int.toNat v8))] : List (UInt8)))]), (4300, 32, [.rowc false (α := S_tmpl_Part) (S_tmpl_Part.mk [] [] 0 []) E_tmpl_Part b5]), (1000000, 43, [.str b1000000.f_s, .val (.int .i64 (IntKind.wrap .i64 (b1000000.f_at + 1))), .val (.int .i64 b1000000.f_e)])]) (by kernel_rfl) (by kernel_rfl) (by kernel_rfl)) ?_
    refine To.keep (kk := [0, 1, 5, 6, 7]) (kl := [5, 6, 4300, 4360, 1000000]) (K' := [(0, .own 1000000 0), (1, .val (.int .i64 v1)), (5, .own 5 0), (6, .own 6 0), (7, .fn 25 [.own 6 0, .own 5 0])]) (L' := [(5, 23, [.row 4300]), (6, 46, [.row 4360]), (4300, 32, [.rowc false (α := S_tmpl_Part) (S_tmpl_Part.mk [] [] 0 []) E_tmpl_Part b5]), (4360, 5, [.rowc false (α := UInt8) 0 e8 (b6 ++ ([(UInt8.ofNat (Int.toNat v8))] : List (UInt8)))]), (1000000, 43, [.str b1000000.f_s, .val (.int .i64 (IntKind.wrap .i64 (b1000000.f_at + 1))), .val (.int .i64 b1000000.f_e)])]) (by kernel_rfl) (by kernel_rfl) ?_
    cases h
    exact hQ
  · replace h := if_f hb h
    refine Wp.seq ?_
    obtain ⟨hc14, h⟩ := chk_of h
    refine Wp.regionD hm hΓ [(9, .val (.bool (Lib.hasPrefix (List.drop (Int.toNat b1000000.f_at) b1000000.f_s) ([123] : List UInt8))))] [0, 1, 5, 6, 7, 100] [5, 6, 4300, 4360, 1000000] (K' := [(0, .own 1000000 0), (1, .val (.int .i64 v1)), (5, .own 5 0), (6, .own 6 0), (7, .fn 25 [.own 6 0, .own 5 0]), (100, .val (.bool (Lib.hasPrefix (List.drop (Int.toNat b1000000.f_at) b1000000.f_s) ([123] : List UInt8))))]) (L' := [(5, 23, [.row 4300]), (6, 46, [.row 4360]), (4300, 32, [.rowc false (α := S_tmpl_Part) (S_tmpl_Part.mk [] [] 0 []) E_tmpl_Part b5]), (4360, 5, [.rowc false (α := UInt8) 0 e8 b6]), (1000000, 43, [.str b1000000.f_s, .val (.int .i64 b1000000.f_at), .val (.int .i64 b1000000.f_e)])]) (ob := [(decide (0 ≤ b1000000.f_at ∧ b1000000.f_at ≤ (List.length b1000000.f_s : Int))) = true, (true = true → CX Tryd.prog 26 [.str (List.drop (Int.toNat b1000000.f_at) b1000000.f_s), .str [123]] (.val (.bool (Lib.hasPrefix (List.drop (Int.toNat b1000000.f_at) b1000000.f_s) ([123] : List UInt8)))))]) (by kernel_rfl) (AllP.cons hc14 (AllP.cons (fun _ => cx (Sh.hasPrefix26)) AllP.nil)) ?_
    refine To.thenN ?_
    refine Wp.cond (b := (Lib.hasPrefix (List.drop (Int.toNat b1000000.f_at) b1000000.f_s) ([123] : List UInt8))) (by kernel_rfl) (fun hb => ?_) (fun hb => ?_)
    · replace h := if_t hb h
      refine Wp.seq ?_
      refine Wp.region hΓ [] [] [] [0, 1, 5, 6, 7] [5, 6, 4300, 4360, 1000000] (K' := [(0, .own 1000000 0), (1, .val (.int .i64 v1)), (5, .own 5 0), (6, .own 6 0), (7, .fn 25 [.own 6 0, .own 5 0])]) (L' := [(5, 23, [.row 4300]), (6, 46, [.row 4360]), (4300, 32, [.rowc false (α := S_tmpl_Part) (S_tmpl_Part.mk [] [] 0 []) E_tmpl_Part b5]), (4360, 5, [.rowc false (α := UInt8) 0 e8 b6]), (1000000, 43, [.str b1000000.f_s, .val (.int .i64 (IntKind.wrap .i64 (b1000000.f_at + 1))), .val (.int .i64 b1000000.f_e)])]) (ob := []) (by kernel_rfl) AllP.nil ?_
      refine To.thenN ?_
      refine Wp.seq ?_
      obtain ⟨r6, hr6, h⟩ := bind_of h
      refine Wp.region hΓ [] [] [(1, ⟨[(1000000, 6), (1000001, 5), (1010000, 4360), (1010100, 4300)], [(200, 4360), (300, 4300), (1000000, 6), (1000001, 5)], [.own 1000000 0, .own 1000001 0], [(1000000, 46, [.row 1010000]), (1000001, 23, [.row 1010100]), (1010000, 5, [.rowc false (α := UInt8) 0 e8 b6]), (1010100, 32, [.rowc false (α := S_tmpl_Part) (S_tmpl_Part.mk [] [] 0 []) E_tmpl_Part b5])], .tup [], [(200, 5, [.rowc false (α := UInt8) 0 e8 r6.1]), (300, 32, [.rowc false (α := S_tmpl_Part) (S_tmpl_Part.mk [] [] 0 []) E_tmpl_Part r6.2]), (1000000, 46, [.row 200]), (1000001, 23, [.row 300])]⟩)] [0, 1, 5, 6, 7] [5, 6, 4300, 4360, 1000000] (K' := [(0, .own 1000000 0), (1, .val (.int .i64 v1)), (5, .own 5 0), (6, .own 6 0), (7, .fn 25 [.own 6 0, .own 5 0])]) (L' := [(5, 23, [.row 4300]), (6, 46, [.row 4360]), (4300, 32, [.rowc false (α := S_tmpl_Part) (S_tmpl_Part.mk [] [] 0 []) E_tmpl_Part r6.2]), (4360, 5, [.rowc false (α := UInt8) 0 e8 r6.1]), (1000000, 43, [.str b1000000.f_s, .val (.int .i64 (IntKind.wrap .i64 (b1000000.f_at + 1))), .val (.int .i64 b1000000.f_e)])]) (ob := [CbOb (CallsB Tryd.prog) 25 [.own 6 0, .own 5 0] [some (46, [.row 4360]), some (23, [.row 4300]), some (5, [.rowc false (α := UInt8) 0 e8 b6]), some (32, [.rowc false (α := S_tmpl_Part) (S_tmpl_Part.mk [] [] 0 []) E_tmpl_Part b5])] ⟨[(1000000, 6), (1000001, 5), (1010000, 4360), (1010100, 4300)], [(200, 4360), (300, 4300), (1000000, 6), (1000001, 5)], [.own 1000000 0, .own 1000001 0], [(1000000, 46, [.row 1010000]), (1000001, 23, [.row 1010100]), (1010000, 5, [.rowc false (α := UInt8) 0 e8 b6]), (1010100, 32, [.rowc false (α := S_tmpl_Part) (S_tmpl_Part.mk [] [] 0 []) E_tmpl_Part b5])], .tup [], [(200, 5, [.rowc false (α := UInt8) 0 e8 r6.1]), (300, 32, [.rowc false (α := S_tmpl_Part) (S_tmpl_Part.mk [] [] 0 []) E_tmpl_Part r6.2]), (1000000, 46, [.row 200]), (1000001, 23, [.row 300])]⟩]) (by kernel_rfl) (AllP.cons (⟨(ok_tmpl_reader_parts_1__o0__o1 n b6 b5 _ hr6), by kernel_rfl, by kernel_rfl⟩) AllP.nil) ?_
      refine To.thenN ?_
      obtain ⟨r7, hr7, h⟩ := bind_of h
      obtain ⟨hc8, h⟩ := chk_of h
      obtain ⟨hc9, h⟩ := chk_of h
      refine Wp.regionO hm hΓ [] [(5, .recs (α := S_tmpl_Part) (S_tmpl_Part.mk [] [] 0 []) E_tmpl_Part ([(S_tmpl_Part.mk [] [] 0 [])])), (6, .recs (α := S_tmpl_Part) (S_tmpl_Part.mk [] [] 0 []) E_tmpl_Part (r6.2 ++ ([(S_tmpl_Part.mk [] [] 0 [])] : List (S_tmpl_Part)))), (8, .recs (α := S_tmpl_Part) (S_tmpl_Part.mk [] [] 0 []) E_tmpl_Part (List.set (r6.2 ++ ([(S_tmpl_Part.mk [] [] 0 [])] : List (S_tmpl_Part))) (Int.toNat (List.length r6.2 : Int)) r7.1))] [(3, ⟨[(1000000, 1000000)], [(1000000, 1000000)], [.own 1000000 0, .val (.int .i64 v1)], [(1000000, 43, [.str b1000000.f_s, .val (.int .i64 (IntKind.wrap .i64 (b1000000.f_at + 1))), .val (.int .i64 b1000000.f_e)])], .agg [.str r7.1.f_Name, .str r7.1.f_Text, .val (.int .i64 r7.1.f_Op), .tree (α := S_tmpl_Part) (S_tmpl_Part.mk [] [] 0 []) pre_S_tmpl_Part kids_S_tmpl_Part r7.1.f_Sub], [(1000000, 43, [.str r7.2.f_s, .val (.int .i64 r7.2.f_at), .val (.int .i64 r7.2.f_e)])]⟩)] [0, 1, 5, 6, 7, 120, 121, 122, 123, 124, 125, 126, 127] [5, 6, 125, 126, 4300, 4360, 1000000] [0, 1, 5, 6, 7] [5, 6, 126, 4360, 1000000] (K' := [(0, .own 1000000 0), (1, .val (.int .i64 v1)), (5, .own 5 0), (6, .own 6 0), (7, .fn 25 [.own 6 0, .own 5 0])]) (L' := [(5, 23, [.row 126]), (6, 46, [.row 4360]), (126, 32, [.rowc false (α := S_tmpl_Part) (S_tmpl_Part.mk [] [] 0 []) E_tmpl_Part (List.set (r6.2 ++ ([(S_tmpl_Part.mk [] [] 0 [])] : List (S_tmpl_Part))) (Int.toNat (List.length r6.2 : Int)) r7.1)]), (4360, 5, [.rowc false (α := UInt8) 0 e8 r6.1]), (1000000, 43, [.str r7.2.f_s, .val (.int .i64 r7.2.f_at), .val (.int .i64 r7.2.f_e)])]) (ob := [CbOb (CallsB Tryd.prog) 27 [.own 1000000 0, .val (.int .i64 v1)] [some (43, [.str b1000000.f_s, .val (.int .i64 (IntKind.wrap .i64 (b1000000.f_at + 1))), .val (.int .i64 b1000000.f_e)])] ⟨[(1000000, 1000000)], [(1000000, 1000000)], [.own 1000000 0, .val (.int .i64 v1)], [(1000000, 43, [.str b1000000.f_s, .val (.int .i64 (IntKind.wrap .i64 (b1000000.f_at + 1))), .val (.int .i64 b1000000.f_e)])], .agg [.str r7.1.f_Name, .str r7.1.f_Text, .val (.int .i64 r7.1.f_Op), .tree (α := S_tmpl_Part) (S_tmpl_Part.mk [] [] 0 []) pre_S_tmpl_Part kids_S_tmpl_Part r7.1.f_Sub], [(1000000, 43, [.str r7.2.f_s, .val (.int .i64 r7.2.f_at), .val (.int .i64 r7.2.f_e)])]⟩, (MkOb 4 [.str [], .str [], .val (.int .i64 0), .val (.slice none 0 0)] 1 (.recs (α := S_tmpl_Part) (S_tmpl_Part.mk [] [] 0 []) E_tmpl_Part ([(S_tmpl_Part.mk [] [] 0 [])])) ∧ GoodR (.recs (α := S_tmpl_Part) (S_tmpl_Part.mk [] [] 0 []) E_tmpl_Part ([(S_tmpl_Part.mk [] [] 0 [])]))), (decide ((List.length r6.2 + List.length ([(S_tmpl_Part.mk [] [] 0 [])] : List (S_tmpl_Part))) * (64 + 1) ≤ limit)) = true, (AppOb (S_tmpl_Part.mk [] [] 0 []) E_tmpl_Part r6.2 (List.flatMap E_tmpl_Part ([(S_tmpl_Part.mk [] [] 0 [])] : List (S_tmpl_Part))) (List.length ([(S_tmpl_Part.mk [] [] 0 [])] : List (S_tmpl_Part))) (.recs (α := S_tmpl_Part) (S_tmpl_Part.mk [] [] 0 []) E_tmpl_Part (r6.2 ++ ([(S_tmpl_Part.mk [] [] 0 [])] : List (S_tmpl_Part)))) ∧ GoodR (.recs (α := S_tmpl_Part) (S_tmpl_Part.mk [] [] 0 []) E_tmpl_Part (r6.2 ++ ([(S_tmpl_Part.mk [] [] 0 [])] : List (S_tmpl_Part))))), (decide (0 ≤ (List.length r6.2 : Int) ∧ (List.length r6.2 : Int) < (List.length (r6.2 ++ ([(S_tmpl_Part.mk [] [] 0 [])] : List (S_tmpl_Part))) : Int))) = true, (decide (0 ≤ (List.length r6.2 : Int) ∧ (List.length r6.2 : Int) < (List.length (r6.2 ++ ([(S_tmpl_Part.mk [] [] 0 [])] : List (S_tmpl_Part))) : Int))) = true, UpdOb (S_tmpl_Part.mk [] [] 0 []) E_tmpl_Part (r6.2 ++ ([(S_tmpl_Part.mk [] [] 0 [])] : List (S_tmpl_Part))) (List.length r6.2 : Int) 0 [.str r7.1.f_Name, .str r7.1.f_Text, .val (.int .i64 r7.1.f_Op), .tree (α := S_tmpl_Part) (S_tmpl_Part.mk [] [] 0 []) pre_S_tmpl_Part kids_S_tmpl_Part r7.1.f_Sub] (.recs (α := S_tmpl_Part) (S_tmpl_Part.mk [] [] 0 []) E_tmpl_Part (List.set (r6.2 ++ ([(S_tmpl_Part.mk [] [] 0 [])] : List (S_tmpl_Part))) (Int.toNat (List.length r6.2 : Int)) r7.1))]) (by kernel_rfl) (by kernel_rfl) (AllP.cons (⟨(ok_tmpl_reader_reference__o0 R_tmpl_reader_parts__o0 hR_tmpl_reader_parts__o0 n v1 (S_tmpl_reader.mk b1000000.f_s (IntKind.wrap .i64 (b1000000.f_at + 1)) b1000000.f_e) _ hr7), by kernel_rfl, by kernel_rfl⟩) (AllP.cons (mkObW (weaks_eq (ds := [.str [], .str [], .val (.int .i64 0), .val (.slice none 0 0)]) (es := [.str [], .str [], .val (.int .i64 0), .tree (α := S_tmpl_Part) (S_tmpl_Part.mk [] [] 0 []) pre_S_tmpl_Part kids_S_tmpl_Part []]) (by kernel_rfl) (.cons (.refl _) (.cons (.refl _) (.cons (.refl _) (.cons (.zeroT _ _ _) .nil)))) (by kernel_rfl)) rfl (by kernel_rfl) (good_E_tmpl_Part _)) (AllP.cons hc8 (AllP.cons (appOb rfl rfl (good_E_tmpl_Part _)) (AllP.cons hc9 (AllP.cons hc9 (AllP.cons (updOb (by kernel_rfl)) AllP.nil))))))) ?_
      refine To.blockN ?_
      refine To.keep (kk := [0, 1, 5, 6, 7]) (kl := [5, 6, 126, 4360, 1000000]) (K' := [(0, .own 1000000 0), (1, .val (.int .i64 v1)), (5, .own 5 0), (6, .own 6 0), (7, .fn 25 [.own 6 0, .own 5 0])]) (L' := [(5, 23, [.row 126]), (6, 46, [.row 4360]), (126, 32, [.rowc false (α := S_tmpl_Part) (S_tmpl_Part.mk [] [] 0 []) E_tmpl_Part (List.set (r6.2 ++ ([(S_tmpl_Part.mk [] [] 0 [])] : List (S_tmpl_Part))) (Int.toNat (List.length r6.2 : Int)) r7.1)]), (4360, 5, [.rowc false (α := UInt8) 0 e8 r6.1]), (1000000, 43, [.str r7.2.f_s, .val (.int .i64 r7.2.f_at), .val (.int .i64 r7.2.f_e)])]) (by kernel_rfl) (by kernel_rfl) ?_
      refine To.pre (St.rename 126 4300 (by decide) (K' := [(0, .own 1000000 0), (1, .val (.int .i64 v1)), (5, .own 5 0), (6, .own 6 0), (7, .fn 25 [.own 6 0, .own 5 0])]) (L' := [(5, 23, [.row 4300]), (6, 46, [.row 4360]), (4300, 32, [.rowc false (α := S_tmpl_Part) (S_tmpl_Part.mk [] [] 0 []) E_tmpl_Part (List.set (r6.2 ++ ([(S_tmpl_Part.mk [] [] 0 [])] : List (S_tmpl_Part))) (Int.toNat (List.length r6.2 : Int)) r7.1)]), (4360, 5, [.rowc false (α := UInt8) 0 e8 r6.1]), (1000000, 43, [.str r7.2.f_s, .val (.int .i64 r7.2.f_at), .val (.int .i64 r7.2.f_e)])]) (by kernel_rfl) (by kernel_rfl) (by kernel_rfl)) ?_
      refine To.keep (kk := [0, 1, 5, 6, 7]) (kl := [5, 6, 4300, 4360, 1000000]) (K' := [(0, .own 1000000 0), (1, .val (.int .i64 v1)), (5, .own 5 0), (6, .own 6 0), (7, .fn 25 [.own 6 0, .own 5 0])]) (L' := [(5, 23, [.row 4300]), (6, 46, [.row 4360]), (4300, 32, [.rowc false (α := S_tmpl_Part) (S_tmpl_Part.mk [] [] 0 []) E_tmpl_Part (List.set (r6.2 ++ ([(S_tmpl_Part.mk [] [] 0 [])] : List (S_tmpl_Part))) (Int.toNat (List.length r6.2 : Int)) r7.1)]), (4360, 5, [.rowc false (α := UInt8) 0 e8 r6.1]), (1000000, 43, [.str r7.2.f_s, .val (.int .i64 r7.2.f_at), .val (.int .i64 r7.2.f_e)])]) (by kernel_rfl) (by kernel_rfl) ?_
      cases h
      exact hQ
    · replace h := if_f hb h
      refine Wp.seq ?_
      obtain ⟨r10, hr10, h⟩ := bind_of h
      refine Wp.region hΓ [] [] [(1, ⟨[(1000000, 6), (1000001, 5), (1010000, 4360), (1010100, 4300)], [(200, 4360), (300, 4300), (1000000, 6), (1000001, 5)], [.own 1000000 0, .own 1000001 0], [(1000000, 46, [.row 1010000]), (1000001, 23, [.row 1010100]), (1010000, 5, [.rowc false (α := UInt8) 0 e8 b6]), (1010100, 32, [.rowc false (α := S_tmpl_Part) (S_tmpl_Part.mk [] [] 0 []) E_tmpl_Part b5])], .tup [], [(200, 5, [.rowc false (α := UInt8) 0 e8 r10.1]), (300, 32, [.rowc false (α := S_tmpl_Part) (S_tmpl_Part.mk [] [] 0 []) E_tmpl_Part r10.2]), (1000000, 46, [.row 200]), (1000001, 23, [.row 300])]⟩)] [0, 1, 5, 6, 7] [5, 6, 4300, 4360, 1000000] (K' := [(0, .own 1000000 0), (1, .val (.int .i64 v1)), (5, .own 5 0), (6, .own 6 0), (7, .fn 25 [.own 6 0, .own 5 0])]) (L' := [(5, 23, [.row 4300]), (6, 46, [.row 4360]), (4300, 32, [.rowc false (α := S_tmpl_Part) (S_tmpl_Part.mk [] [] 0 []) E_tmpl_Part r10.2]), (4360, 5, [.rowc false (α := UInt8) 0 e8 r10.1]), (1000000, 43, [.str b1000000.f_s, .val (.int .i64 b1000000.f_at), .val (.int .i64 b1000000.f_e)])]) (ob := [CbOb (CallsB Tryd.prog) 25 [.own 6 0, .own 5 0] [some (46, [.row 4360]), some (23, [.row 4300]), some (5, [.rowc false (α := UInt8) 0 e8 b6]), some (32, [.rowc false (α := S_tmpl_Part) (S_tmpl_Part.mk [] [] 0 []) E_tmpl_Part b5])] ⟨[(1000000, 6), (1000001, 5), (1010000, 4360), (1010100, 4300)], [(200, 4360), (300, 4300), (1000000, 6), (1000001, 5)], [.own 1000000 0, .own 1000001 0], [(1000000, 46, [.row 1010000]), (1000001, 23, [.row 1010100]), (1010000, 5, [.rowc false (α := UInt8) 0 e8 b6]), (1010100, 32, [.rowc false (α := S_tmpl_Part) (S_tmpl_Part.mk [] [] 0 []) E_tmpl_Part b5])], .tup [], [(200, 5, [.rowc false (α := UInt8) 0 e8 r10.1]), (300, 32, [.rowc false (α := S_tmpl_Part) (S_tmpl_Part.mk [] [] 0 []) E_tmpl_Part r10.2]), (1000000, 46, [.row 200]), (1000001, 23, [.row 300])]⟩]) (by kernel_rfl) (AllP.cons (⟨(ok_tmpl_reader_parts_1__o0__o1 n b6 b5 _ hr10), by kernel_rfl, by kernel_rfl⟩) AllP.nil) ?_
      refine To.thenN ?_
      obtain ⟨r11, hr11, h⟩ := bind_of h
      obtain ⟨hc12, h⟩ := chk_of h
      obtain ⟨hc13, h⟩ := chk_of h
      refine Wp.regionO hm hΓ [] [(5, .recs (α := S_tmpl_Part) (S_tmpl_Part.mk [] [] 0 []) E_tmpl_Part ([(S_tmpl_Part.mk [] [] 0 [])])), (6, .recs (α := S_tmpl_Part) (S_tmpl_Part.mk [] [] 0 []) E_tmpl_Part (r10.2 ++ ([(S_tmpl_Part.mk [] [] 0 [])] : List (S_tmpl_Part)))), (8, .recs (α := S_tmpl_Part) (S_tmpl_Part.mk [] [] 0 []) E_tmpl_Part (List.set (r10.2 ++ ([(S_tmpl_Part.mk [] [] 0 [])] : List (S_tmpl_Part))) (Int.toNat (List.length r10.2 : Int)) r11.1))] [(3, ⟨[(1000000, 1000000)], [(1000000, 1000000)], [.own 1000000 0, .val (.int .i64 v1)], [(1000000, 43, [.str b1000000.f_s, .val (.int .i64 b1000000.f_at), .val (.int .i64 b1000000.f_e)])], .agg [.str r11.1.f_Name, .str r11.1.f_Text, .val (.int .i64 r11.1.f_Op), .tree (α := S_tmpl_Part) (S_tmpl_Part.mk [] [] 0 []) pre_S_tmpl_Part kids_S_tmpl_Part r11.1.f_Sub], [(1000000, 43, [.str r11.2.f_s, .val (.int .i64 r11.2.f_at), .val (.int .i64 r11.2.f_e)])]⟩)] [0, 1, 5, 6, 7, 70, 71, 72, 73, 74, 75, 76, 77] [5, 6, 75, 76, 4300, 4360, 1000000] [0, 1, 5, 6, 7] [5, 6, 76, 4360, 1000000] (K' := [(0, .own 1000000 0), (1, .val (.int .i64 v1)), (5, .own 5 0), (6, .own 6 0), (7, .fn 25 [.own 6 0, .own 5 0])]) (L' := [(5, 23, [.row 76]), (6, 46, [.row 4360]), (76, 32, [.rowc false (α := S_tmpl_Part) (S_tmpl_Part.mk [] [] 0 []) E_tmpl_Part (List.set (r10.2 ++ ([(S_tmpl_Part.mk [] [] 0 [])] : List (S_tmpl_Part))) (Int.toNat (List.length r10.2 : Int)) r11.1)]), (4360, 5, [.rowc false (α := UInt8) 0 e8 r10.1]), (1000000, 43, [.str r11.2.f_s, .val (.int .i64 r11.2.f_at), .val (.int .i64 r11.2.f_e)])]) (ob := [CbOb (CallsB Tryd.prog) 28 [.own 1000000 0, .val (.int .i64 v1)] [some (43, [.str b1000000.f_s, .val (.int .i64 b1000000.f_at), .val (.int .i64 b1000000.f_e)])] ⟨[(1000000, 1000000)], [(1000000, 1000000)], [.own 1000000 0, .val (.int .i64 v1)], [(1000000, 43, [.str b1000000.f_s, .val (.int .i64 b1000000.f_at), .val (.int .i64 b1000000.f_e)])], .agg [.str r11.1.f_Name, .str r11.1.f_Text, .val (.int .i64 r11.1.f_Op), .tree (α := S_tmpl_Part) (S_tmpl_Part.mk [] [] 0 []) pre_S_tmpl_Part kids_S_tmpl_Part r11.1.f_Sub], [(1000000, 43, [.str r11.2.f_s, .val (.int .i64 r11.2.f_at), .val (.int .i64 r11.2.f_e)])]⟩, (MkOb 4 [.str [], .str [], .val (.int .i64 0), .val (.slice none 0 0)] 1 (.recs (α := S_tmpl_Part) (S_tmpl_Part.mk [] [] 0 []) E_tmpl_Part ([(S_tmpl_Part.mk [] [] 0 [])])) ∧ GoodR (.recs (α := S_tmpl_Part) (S_tmpl_Part.mk [] [] 0 []) E_tmpl_Part ([(S_tmpl_Part.mk [] [] 0 [])]))), (decide ((List.length r10.2 + List.length ([(S_tmpl_Part.mk [] [] 0 [])] : List (S_tmpl_Part))) * (64 + 1) ≤ limit)) = true, (AppOb (S_tmpl_Part.mk [] [] 0 []) E_tmpl_Part r10.2 (List.flatMap E_tmpl_Part ([(S_tmpl_Part.mk [] [] 0 [])] : List (S_tmpl_Part))) (List.length ([(S_tmpl_Part.mk [] [] 0 [])] : List (S_tmpl_Part))) (.recs (α := S_tmpl_Part) (S_tmpl_Part.mk [] [] 0 []) E_tmpl_Part (r10.2 ++ ([(S_tmpl_Part.mk [] [] 0 [])] : List (S_tmpl_Part)))) ∧ GoodR (.recs (α := S_tmpl_Part) (S_tmpl_Part.mk [] [] 0 []) E_tmpl_Part (r10.2 ++ ([(S_tmpl_Part.mk [] [] 0 [])] : List (S_tmpl_Part))))), (decide (0 ≤ (List.length r10.2 : Int) ∧ (List.length r10.2 : Int) < (List.length (r10.2 ++ ([(S_tmpl_Part.mk [] [] 0 [])] : List (S_tmpl_Part))) : Int))) = true, (decide (0 ≤ (List.length r10.2 : Int) ∧ (List.length r10.2 : Int) < (List.length (r10.2 ++ ([(S_tmpl_Part.mk [] [] 0 [])] : List (S_tmpl_Part))) : Int))) = true, UpdOb (S_tmpl_Part.mk [] [] 0 []) E_tmpl_Part (r10.2 ++ ([(S_tmpl_Part.mk [] [] 0 [])] : List (S_tmpl_Part))) (List.length r10.2 : Int) 0 [.str r11.1.f_Name, .str r11.1.f_Text, .val (.int .i64 r11.1.f_Op), .tree (α := S_tmpl_Part) (S_tmpl_Part.mk [] [] 0 []) pre_S_tmpl_Part kids_S_tmpl_Part r11.1.f_Sub] (.recs (α := S_tmpl_Part) (S_tmpl_Part.mk [] [] 0 []) E_tmpl_Part (List.set (r10.2 ++ ([(S_tmpl_Part.mk [] [] 0 [])] : List (S_tmpl_Part))) (Int.toNat (List.length r10.2 : Int)) r11.1))]) (by kernel_rfl) (by kernel_rfl) (AllP.cons (⟨(ok_tmpl_reader_plain__o0 n v1 b1000000 _ hr11), by kernel_rfl, by kernel_rfl⟩) (AllP.cons (mkObW (weaks_eq (ds := [.str [], .str [], .val (.int .i64 0), .val (.slice none 0 0)]) (es := [.str [], .str [], .val (.int .i64 0), .tree (α := S_tmpl_Part) (S_tmpl_Part.mk [] [] 0 []) pre_S_tmpl_Part kids_S_tmpl_Part []]) (by kernel_rfl) (.cons (.refl _) (.cons (.refl _) (.cons (.refl _) (.cons (.zeroT _ _ _) .nil)))) (by kernel_rfl)) rfl (by kernel_rfl) (good_E_tmpl_Part _)) (AllP.cons hc12 (AllP.cons (appOb rfl rfl (good_E_tmpl_Part _)) (AllP.cons hc13 (AllP.cons hc13 (AllP.cons (updOb (by kernel_rfl)) AllP.nil))))))) ?_
      refine To.blockN ?_
      refine To.keep (kk := [0, 1, 5, 6, 7]) (kl := [5, 6, 76, 4360, 1000000]) (K' := [(0, .own 1000000 0), (1, .val (.int .i64 v1)), (5, .own 5 0), (6, .own 6 0), (7, .fn 25 [.own 6 0, .own 5 0])]) (L' := [(5, 23, [.row 76]), (6, 46, [.row 4360]), (76, 32, [.rowc false (α := S_tmpl_Part) (S_tmpl_Part.mk [] [] 0 []) E_tmpl_Part (List.set (r10.2 ++ ([(S_tmpl_Part.mk [] [] 0 [])] : List (S_tmpl_Part))) (Int.toNat (List.length r10.2 : Int)) r11.1)]), (4360, 5, [.rowc false (α := UInt8) 0 e8 r10.1]), (1000000, 43, [.str r11.2.f_s, .val (.int .i64 r11.2.f_at), .val (.int .i64 r11.2.f_e)])]) (by kernel_rfl) (by kernel_rfl) ?_
      refine To.pre (St.rename 76 4300 (by decide) (K' := [(0, .own 1000000 0), (1, .val (.int .i64 v1)), (5, .own 5 0), (6, .own 6 0), (7, .fn 25 [.own 6 0, .own 5 0])]) (L' := [(5, 23, [.row 4300]), (6, 46, [.row 4360]), (4300, 32, [.rowc false (α := S_tmpl_Part) (S_tmpl_Part.mk [] [] 0 []) E_tmpl_Part (List.set (r10.2 ++ ([(S_tmpl_Part.mk [] [] 0 [])] : List (S_tmpl_Part))) (Int.toNat (List.length r10.2 : Int)) r11.1)]), (4360, 5, [.rowc false (α := UInt8) 0 e8 r10.1]), (1000000, 43, [.str r11.2.f_s, .val (.int .i64 r11.2.f_at), .val (.int .i64 r11.2.f_e)])]) (by kernel_rfl) (by kernel_rfl) (by kernel_rfl)) ?_
      refine To.keep (kk := [0, 1, 5, 6, 7]) (kl := [5, 6, 4300, 4360, 1000000]) (K' := [(0, .own 1000000 0), (1, .val (.int .i64 v1)), (5, .own 5 0), (6, .own 6 0), (7, .fn 25 [.own 6 0, .own 5 0])]) (L' := [(5, 23, [.row 4300]), (6, 46, [.row 4360]), (4300, 32, [.rowc false (α := S_tmpl_Part) (S_tmpl_Part.mk [] [] 0 []) E_tmpl_Part (List.set (r10.2 ++ ([(S_tmpl_Part.mk [] [] 0 [])] : List (S_tmpl_Part))) (Int.toNat (List.length r10.2 : Int)) r11.1)]), (4360, 5, [.rowc false (α := UInt8) 0 e8 r10.1]), (1000000, 43, [.str r11.2.f_s, .val (.int .i64 r11.2.f_at), .val (.int .i64 r11.2.f_e)])]) (by kernel_rfl) (by kernel_rfl) ?_
      cases h
      exact hQ
def tmpl_reader_parts__o0_j3 (R_tmpl_reader_parts__o0 : Int → S_tmpl_reader → Option ((List (S_tmpl_Part)) × S_tmpl_reader)) (n : Nat) (v1 : Int) (v8 : Int) (b5 : List (S_tmpl_Part)) (b6 : List (UInt8)) (b1000000 : S_tmpl_reader) : Option ((List (S_tmpl_Part)) × (List (UInt8)) × S_tmpl_reader) :=
  if (decide (0 ≤ b1000000.f_at ∧ b1000000.f_at ≤ (List.length b1000000.f_s : Int))) = true then (if (Lib.hasPrefix (List.drop (Int.toNat b1000000.f_at) b1000000.f_s) ([36] : List UInt8)) = true then (if (decide (0 ≤ v8 ∧ v8 < 256)) = true then (if (decide ((List.length b6 + List.length ([(UInt8.ofNat (Int.toNat v8))] : List (UInt8))) * (1 + 1) ≤ limit)) = true then (some (b5, (b6 ++ ([(UInt8.ofNat (Int.toNat v8))] : List (UInt8))), (S_tmpl_reader.mk b1000000.f_s (IntKind.wrap .i64 (b1000000.f_at + 1)) b1000000.f_e))) else none) else none)
  else (if (decide (0 ≤ b1000000.f_at ∧ b1000000.f_at ≤ (List.length b1000000.f_s : Int))) = true then (if (Lib.hasPrefix (List.drop (Int.toNat b1000000.f_at) b1000000.f_s) ([123] : List UInt8)) = true then ((tmpl_reader_parts_1__o0__o1 n b6 b5).bind fun r6 =>
  (tmpl_reader_reference__o0 R_tmpl_reader_parts__o0 n v1 (S_tmpl_reader.mk b1000000.f_s (IntKind.wrap .i64 (b1000000.f_at + 1)) b1000000.f_e)).bind fun r7 =>
  if (decide ((List.length r6.2 + List.length ([(S_tmpl_Part.mk [] [] 0 [])] : List (S_tmpl_Part))) * (64 + 1) ≤ limit)) = true then (if (decide (0 ≤ (List.length r6.2 : Int) ∧ (List.length r6.2 : Int) < (List.length (r6.2 ++ ([(S_tmpl_Part.mk [] [] 0 [])] : List (S_tmpl_Part))) : Int))) = true then (some ((List.set (r6.2 ++ ([(S_tmpl_Part.mk [] [] 0 [])] : List (S_tmpl_Part))) (Int.toNat (List.length r6.2 : Int)) r7.1), r6.1, r7.2)) else none) else none)
  else ((tmpl_reader_parts_1__o0__o1 n b6 b5).bind fun r10 =>
  (tmpl_reader_plain__o0 n v1 b1000000).bind fun r11 =>
  if (decide ((List.length r10.2 + List.length ([(S_tmpl_Part.mk [] [] 0 [])] : List (S_tmpl_Part))) * (64 + 1) ≤ limit)) = true then (if (decide (0 ≤ (List.length r10.2 : Int) ∧ (List.length r10.2 : Int) < (List.length (r10.2 ++ ([(S_tmpl_Part.mk [] [] 0 [])] : List (S_tmpl_Part))) : Int))) = true then (some ((List.set (r10.2 ++ ([(S_tmpl_Part.mk [] [] 0 [])] : List (S_tmpl_Part))) (Int.toNat (List.length r10.2 : Int)) r11.1), r10.1, r11.2)) else none) else none)) else none)) else none
theorem ok_tmpl_reader_parts__o0_j3 (R_tmpl_reader_parts__o0 : Int → S_tmpl_reader → Option ((List (S_tmpl_Part)) × S_tmpl_reader)) (hR_tmpl_reader_parts__o0 : ∀ (a1 : Int) (h0 : S_tmpl_reader) (r : (List (S_tmpl_Part)) × S_tmpl_reader), R_tmpl_reader_parts__o0 a1 h0 = some r → CallsB Tryd.prog 16 [.own 1000000 0, .val (.int .i64 a1)] [(1000000, 43, [.str h0.f_s, .val (.int .i64 h0.f_at), .val (.int .i64 h0.f_e)])] (.recs (α := S_tmpl_Part) (S_tmpl_Part.mk [] [] 0 []) E_tmpl_Part r.1) [(1000000, 43, [.str r.2.f_s, .val (.int .i64 r.2.f_at), .val (.int .i64 r.2.f_e)])]) (n : Nat) (v1 : Int) (v8 : Int) (b5 : List (S_tmpl_Part)) (b6 : List (UInt8)) (b1000000 : S_tmpl_reader) (o : (List (S_tmpl_Part)) × (List (UInt8)) × S_tmpl_reader) (h : tmpl_reader_parts__o0_j3 R_tmpl_reader_parts__o0 n v1 v8 b5 b6 b1000000 = some o) {F0 : Fz} {w0 : Pt Tryd.prog} {Q : Exit → Act → World → Prop} (hQ : To 128 F0 w0 [(0, .own 1000000 0), (1, .val (.int .i64 v1)), (5, .own 5 0), (6, .own 6 0), (7, .fn 25 [.own 6 0, .own 5 0])] [(5, 23, [.row 4300]), (6, 46, [.row 4360]), (4300, 32, [.rowc false (α := S_tmpl_Part) (S_tmpl_Part.mk [] [] 0 []) E_tmpl_Part o.1]), (4360, 5, [.rowc false (α := UInt8) 0 e8 o.2.1]), (1000000, 43, [.str o.2.2.f_s, .val (.int .i64 o.2.2.f_at), .val (.int .i64 o.2.2.f_e)])] .normal Q) : Wp Tryd.prog 128 F0 w0 [(0, .own 1000000 0), (1, .val (.int .i64 v1)), (5, .own 5 0), (6, .own 6 0), (7, .fn 25 [.own 6 0, .own 5 0]), (8, .val (.int .u8 v8))] [(5, 23, [.row 4300]), (6, 46, [.row 4360]), (4300, 32, [.rowc false (α := S_tmpl_Part) (S_tmpl_Part.mk [] [] 0 []) E_tmpl_Part b5]), (4360, 5, [.rowc false (α := UInt8) 0 e8 b6]), (1000000, 43, [.str b1000000.f_s, .val (.int .i64 b1000000.f_at), .val (.int .i64 b1000000.f_e)])] (cA (cB (cB (cB (cB (cB (cB (cB (cB (cI (cB (cF Tryd.f16)))))))))))) Q := by
  unfold tmpl_reader_parts__o0_j3 at h
  refine Wp.block ?_
  refine Wp.seq ?_
  obtain ⟨hc15, h⟩ := chk_of h
  refine Wp.regionD hm hΓ [(9, .val (.bool (Lib.hasPrefix (List.drop (Int.toNat b1000000.f_at) b1000000.f_s) ([36] : List UInt8))))] [0, 1, 5, 6, 7, 8, 78] [5, 6, 4300, 4360, 1000000] (K' := [(0, .own 1000000 0), (1, .val (.int .i64 v1)), (5, .own 5 0), (6, .own 6 0), (7, .fn 25 [.own 6 0, .own 5 0]), (8, .val (.int .u8 v8)), (78, .val (.bool (Lib.hasPrefix (List.drop (Int.toNat b1000000.f_at) b1000000.f_s) ([36] : List UInt8))))]) (L' := [(5, 23, [.row 4300]), (6, 46, [.row 4360]), (4300, 32, [.rowc false (α := S_tmpl_Part) (S_tmpl_Part.mk [] [] 0 []) E_tmpl_Part b5]), (4360, 5, [.rowc false (α := UInt8) 0 e8 b6]), (1000000, 43, [.str b1000000.f_s, .val (.int .i64 b1000000.f_at), .val (.int .i64 b1000000.f_e)])]) (ob := [(decide (0 ≤ b1000000.f_at ∧ b1000000.f_at ≤ (List.length b1000000.f_s : Int))) = true, (true = true → CX Tryd.prog 26 [.str (List.drop (Int.toNat b1000000.f_at) b1000000.f_s), .str [36]] (.val (.bool (Lib.hasPrefix (List.drop (Int.toNat b1000000.f_at) b1000000.f_s) ([36] : List UInt8)))))]) (by kernel_rfl) (AllP.cons hc15 (AllP.cons (fun _ => cx (Sh.hasPrefix26)) AllP.nil)) ?_
  refine To.thenN ?_
  refine Wp.cond (b := (Lib.hasPrefix (List.drop (Int.toNat b1000000.f_at) b1000000.f_s) ([36] : List UInt8))) (by kernel_rfl) (fun hb => ?_) (fun hb => ?_)
  · replace h := if_t hb h
    refine Wp.seq ?_
    obtain ⟨u4, h⟩ := chk_of h
    obtain ⟨hc5, h⟩ := chk_of h
    refine Wp.region hΓ [] [(2, .recs (α := UInt8) 0 e8 [(UInt8.ofNat (Int.toNat v8))]), (3, .recs (α := UInt8) 0 e8 (b6 ++ ([(UInt8.ofNat (Int.toNat v8))] : List (UInt8))))] [] [0, 1, 5, 6, 7] [5, 6, 92, 4300, 1000000] (K' := [(0, .own 1000000 0), (1, .val (.int .i64 v1)), (5, .own 5 0), (6, .own 6 0), (7, .fn 25 [.own 6 0, .own 5 0])]) (L' := [(5, 23, [.row 4300]), (6, 46, [.row 92]), (92, 5, [.rowc false (α := UInt8) 0 e8 (b6 ++ ([(UInt8.ofNat (Int.toNat v8))] : List (UInt8)))]), (4300, 32, [.rowc false (α := S_tmpl_Part) (S_tmpl_Part.mk [] [] 0 []) E_tmpl_Part b5]), (1000000, 43, [.str b1000000.f_s, .val (.int .i64 b1000000.f_at), .val (.int .i64 b1000000.f_e)])]) (ob := [(MkOb 1 [.val (.int .u8 v8)] 1 (.recs (α := UInt8) 0 e8 [(UInt8.ofNat (Int.toNat v8))]) ∧ GoodR (.recs (α := UInt8) 0 e8 [(UInt8.ofNat (Int.toNat v8))])), (decide ((List.length b6 + List.length ([(UInt8.ofNat (Int.toNat v8))] : List (UInt8))) * (1 + 1) ≤ limit)) = true, (AppOb 0 e8 b6 (List.flatMap e8 ([(UInt8.ofNat (Int.toNat v8))] : List (UInt8))) (List.length ([(UInt8.ofNat (Int.toNat v8))] : List (UInt8))) (.recs (α := UInt8) 0 e8 (b6 ++ ([(UInt8.ofNat (Int.toNat v8))] : List (UInt8)))) ∧ GoodR (.recs (α := UInt8) 0 e8 (b6 ++ ([(UInt8.ofNat (Int.toNat v8))] : List (UInt8)))))]) (by kernel_rfl) (AllP.cons (mkOb (All8.cells (ns := [v8]) (.cons (u8_of u4) .nil)) rfl rfl (good8 _)) (AllP.cons hc5 (AllP.cons (appOb rfl rfl (good8 _)) AllP.nil))) ?_
    refine To.thenN ?_
    refine Wp.region hΓ [] [] [] [0, 1, 5, 6, 7] [5, 6, 92, 4300, 1000000] (K' := [(0, .own 1000000 0), (1, .val (.int .i64 v1)), (5, .own 5 0), (6, .own 6 0), (7, .fn 25 [.own 6 0, .own 5 0])]) (L' := [(5, 23, [.row 4300]), (6, 46, [.row 92]), (92, 5, [.rowc false (α := UInt8) 0 e8 (b6 ++ ([(UInt8.ofNat (Int.toNat v8))] : List (UInt8)))]), (4300, 32, [.rowc false (α := S_tmpl_Part) (S_tmpl_Part.mk [] [] 0 []) E_tmpl_Part b5]), (1000000, 43, [.str b1000000.f_s, .val (.int .i64 (IntKind.wrap .i64 (b1000000.f_at + 1))), .val (.int .i64 b1000000.f_e)])]) (ob := []) (by kernel_rfl) AllP.nil ?_
    refine To.blockN ?_
    refine To.keep (kk := [0, 1, 5, 6, 7]) (kl := [5, 6, 92, 4300, 1000000]) (K' := [(0, .own 1000000 0), (1, .val (.int .i64 v1)), (5, .own 5 0), (6, .own 6 0), (7, .fn 25 [.own 6 0, .own 5 0])]) (L' := [(5, 23, [.row 4300]), (6, 46, [.row 92]), (92, 5, [.rowc false (α := UInt8) 0 e8 (b6 ++ ([(UInt8.ofNat (Int.toNat v8))] : List (UInt8)))]), (4300, 32, [.rowc false (α := S_tmpl_Part) (S_tmpl_Part.mk [] [] 0 []) E_tmpl_Part b5]), (1000000, 43, [.str b1000000.f_s, .val (.int .i64 (IntKind.wrap .i64 (b1000000.f_at + 1))), .val (.int .i64 b1000000.f_e)])]) (by kernel_rfl) (by kernel_rfl) ?_
    refine To.pre (St.rename 92 4360 (by decide) (K' := [(0, .own 1000000 0), (1, .val (.int .i64 v1)), (5, .own 5 0), (6, .own 6 0), (7, .fn 25 [.own 6 0, .own 5 0])]) (L' := [(5, 23, [.row 4300]), (6, 46, [.row 4360]), (4360, 5, [.rowc false (α := UInt8) 0 e8 (b6 ++ ([(UInt8.ofNat (Int.toNat v8))] : List (UInt8)))]), (4300, 32, [.rowc false (α := S_tmpl_Part) (S_tmpl_Part.mk [] [] 0 []) E_tmpl_Part b5]), (1000000, 43, [.str b1000000.f_s, .val (.int .i64 (IntKind.wrap .i64 (b1000000.f_at + 1))), .val (.int .i64 b1000000.f_e)])]) (by kernel_rfl) (by kernel_rfl) (by kernel_rfl)) ?_
    refine To.keep (kk := [0, 1, 5, 6, 7]) (kl := [5, 6, 4300, 4360, 1000000]) (K' := [(0, .own 1000000 0), (1, .val (.int .i64 v1)), (5, .own 5 0), (6, .own 6 0), (7, .fn 25 [.own 6 0, .own 5 0])]) (L' := [(5, 23, [.row 4300]), (6, 46, [.row 4360]), (4300, 32, [.rowc false (α := S_tmpl_Part) (S_tmpl_Part.mk [] [] 0 []) E_tmpl_Part b5]), (4360, 5, [.rowc false (α := UInt8) 0 e8 (b6 ++ ([(UInt8.ofNat (Int.toNat v8))] : List (UInt8)))]), (1000000, 43, [.str b1000000.f_s, .val (.int .i64 (IntKind.wrap .i64 (b1000000.f_at + 1))), .val (.int .i64 b1000000.f_e)])]) (by kernel_rfl) (by kernel_rfl) ?_
    cases h
    exact hQ
  · replace h := if_f hb h
    refine Wp.seq ?_
    obtain ⟨hc14, h⟩ := chk_of h
    refine Wp.regionD hm hΓ [(9, .val (.bool (Lib.hasPrefix (List.drop (Int.toNat b1000000.f_at) b1000000.f_s) ([123] : List UInt8))))] [0, 1, 5, 6, 7, 100] [5, 6, 4300, 4360, 1000000] (K' := [(0, .own 1000000 0), (1, .val (.int .i64 v1)), (5, .own 5 0), (6, .own 6 0), (7, .fn 25 [.own 6 0, .own 5 0]), (100, .val (.bool (Lib.hasPrefix (List.drop (Int.toNat b1000000.f_at) b1000000.f_s) ([123] : List UInt8))))]) (L' := [(5, 23, [.row 4300]), (6, 46, [.row 4360]), (4300, 32, [.rowc false (α := S_tmpl_Part) (S_tmpl_Part.mk [] [] 0 []) E_tmpl_Part b5]), (4360, 5, [.rowc false (α := UInt8) 0 e8 b6]), (1000000, 43, [.str b1000000.f_s, .val (.int .i64 b1000000.f_at), .val (.int .i64 b1000000.f_e)])]) (ob := [(decide (0 ≤ b1000000.f_at ∧ b1000000.f_at ≤ (List.length b1000000.f_s : Int))) = true, (true = true → CX Tryd.prog 26 [.str (List.drop (Int.toNat b1000000.f_at) b1000000.f_s), .str [123]] (.val (.bool (Lib.hasPrefix (List.drop (Int.toNat b1000000.f_at) b1000000.f_s) ([123] : List UInt8)))))]) (by kernel_rfl) (AllP.cons hc14 (AllP.cons (fun _ => cx (Sh.hasPrefix26)) AllP.nil)) ?_
    refine To.thenN ?_
    refine Wp.cond (b := (Lib.hasPrefix (List.drop (Int.toNat b1000000.f_at) b1000000.f_s) ([123] : List UInt8))) (by kernel_rfl) (fun hb => ?_) (fun hb => ?_)
    · replace h := if_t hb h
      refine Wp.seq ?_
      refine Wp.region hΓ [] [] [] [0, 1, 5, 6, 7] [5, 6, 4300, 4360, 1000000] (K' := [(0, .own 1000000 0), (1, .val (.int .i64 v1)), (5, .own 5 0), (6, .own 6 0), (7, .fn 25 [.own 6 0, .own 5 0])]) (L' := [(5, 23, [.row 4300]), (6, 46, [.row 4360]), (4300, 32, [.rowc false (α := S_tmpl_Part) (S_tmpl_Part.mk [] [] 0 []) E_tmpl_Part b5]), (4360, 5, [.rowc false (α := UInt8) 0 e8 b6]), (1000000, 43, [.str b1000000.f_s, .val (.int .i64 (IntKind.wrap .i64 (b1000000.f_at + 1))), .val (.int .i64 b1000000.f_e)])]) (ob := []) (by kernel_rfl) AllP.nil ?_
      refine To.thenN ?_
      refine Wp.seq ?_
      obtain ⟨r6, hr6, h⟩ := bind_of h
      refine Wp.region hΓ [] [] [(1, ⟨[(1000000, 6), (1000001, 5), (1010000, 4360), (1010100, 4300)], [(200, 4360), (300, 4300), (1000000, 6), (1000001, 5)], [.own 1000000 0, .own 1000001 0], [(1000000, 46, [.row 1010000]), (1000001, 23, [.row 1010100]), (1010000, 5, [.rowc false (α := UInt8) 0 e8 b6]), (1010100, 32, [.rowc false (α := S_tmpl_Part) (S_tmpl_Part.mk [] [] 0 []) E_tmpl_Part b5])], .tup [], [(200, 5, [.rowc false (α := UInt8) 0 e8 r6.1]), (300, 32, [.rowc false (α := S_tmpl_Part) (S_tmpl_Part.mk [] [] 0 []) E_tmpl_Part r6.2]), (1000000, 46, [.row 200]), (1000001, 23, [.row 300])]⟩)] [0, 1, 5, 6, 7] [5, 6, 4300, 4360, 1000000] (K' := [(0, .own 1000000 0), (1, .val (.int .i64 v1)), (5, .own 5 0), (6, .own 6 0), (7, .fn 25 [.own 6 0, .own 5 0])]) (L' := [(5, 23, [.row 4300]), (6, 46, [.row 4360]), (4300, 32, [.rowc false (α := S_tmpl_Part) (S_tmpl_Part.mk [] [] 0 []) E_tmpl_Part r6.2]), (4360, 5, [.rowc false (α := UInt8) 0 e8 r6.1]), (1000000, 43, [.str b1000000.f_s, .val (.int .i64 (IntKind.wrap .i64 (b1000000.f_at + 1))), .val (.int .i64 b1000000.f_e)])]) (ob := [CbOb (CallsB Tryd.prog) 25 [.own 6 0, .own 5 0] [some (46, [.row 4360]), some (23, [.row 4300]), some (5, [.rowc false (α := UInt8) 0 e8 b6]), some (32, [.rowc false (α := S_tmpl_Part) (S_tmpl_Part.mk [] [] 0 []) E_tmpl_Part b5])] ⟨[(1000000, 6), (1000001, 5), (1010000, 4360), (1010100, 4300)], [(200, 4360), (300, 4300), (1000000, 6), (1000001, 5)], [.own 1000000 0, .own 1000001 0], [(1000000, 46, [.row 1010000]), (1000001, 23, [.row 1010100]), (1010000, 5, [.rowc false (α := UInt8) 0 e8 b6]), (1010100, 32, [.rowc false (α := S_tmpl_Part) (S_tmpl_Part.mk [] [] 0 []) E_tmpl_Part b5])], .tup [], [(200, 5, [.rowc false (α := UInt8) 0 e8 r6.1]), (300, 32, [.rowc false (α := S_tmpl_Part) (S_tmpl_Part.mk [] [] 0 []) E_tmpl_Part r6.2]), (1000000, 46, [.row 200]), (1000001, 23, [.row 300])]⟩]) (by kernel_rfl) (AllP.cons (⟨(ok_tmpl_reader_parts_1__o0__o1 n b6 b5 _ hr6), by kernel_rfl, by kernel_rfl⟩) AllP.nil) ?_
      refine To.thenN ?_
      obtain ⟨r7, hr7, h⟩ := bind_of h
      obtain ⟨hc8, h⟩ := chk_of h
      obtain ⟨hc9, h⟩ := chk_of h
      refine Wp.regionO hm hΓ [] [(5, .recs (α := S_tmpl_Part) (S_tmpl_Part.mk [] [] 0 []) E_tmpl_Part ([(S_tmpl_Part.mk [] [] 0 [])])), (6, .recs (α := S_tmpl_Part) (S_tmpl_Part.mk [] [] 0 []) E_tmpl_Part (r6.2 ++ ([(S_tmpl_Part.mk [] [] 0 [])] : List (S_tmpl_Part)))), (8, .recs (α := S_tmpl_Part) (S_tmpl_Part.mk [] [] 0 []) E_tmpl_Part (List.set (r6.2 ++ ([(S_tmpl_Part.mk [] [] 0 [])] : List (S_tmpl_Part))) (Int.toNat (List.length r6.2 : Int)) r7.1))] [(3, ⟨[(1000000, 1000000)], [(1000000, 1000000)], [.own 1000000 0, .val (.int .i64 v1)], [(1000000, 43, [.str b1000000.f_s, .val (.int .i64 (IntKind.wrap .i64 (b1000000.f_at + 1))), .val (.int .i64 b1000000.f_e)])], .agg [.str r7.1.f_Name, .str r7.1.f_Text, .val (.int .i64 r7.1.f_Op), .tree (α := S_tmpl_Part) (S_tmpl_Part.mk [] [] 0 []) pre_S_tmpl_Part kids_S_tmpl_Part r7.1.f_Sub], [(1000000, 43, [.str r7.2.f_s, .val (.int .i64 r7.2.f_at), .val (.int .i64 r7.2.f_e)])]⟩)] [0, 1, 5, 6, 7, 120, 121, 122, 123, 124, 125, 126, 127] [5, 6, 125, 126, 4300, 4360, 1000000] [0, 1, 5, 6, 7] [5, 6, 126, 4360, 1000000] (K' := [(0, .own 1000000 0), (1, .val (.int .i64 v1)), (5, .own 5 0), (6, .own 6 0), (7, .fn 25 [.own 6 0, .own 5 0])]) (L' := [(5, 23, [.row 126]), (6, 46, [.row 4360]), (126, 32, [.rowc false (α := S_tmpl_Part) (S_tmpl_Part.mk [] [] 0 []) E_tmpl_Part (List.set (r6.2 ++ ([(S_tmpl_Part.mk [] [] 0 [])] : List (S_tmpl_Part))) (Int.toNat (List.length r6.2 : Int)) r7.1)]), (4360, 5, [.rowc false (α := UInt8) 0 e8 r6.1]), (1000000, 43, [.str r7.2.f_s, .val (.int .i64 r7.2.f_at), .val (.int .i64 r7.2.f_e)])]) (ob := [CbOb (CallsB Tryd.prog) 27 [.own 1000000 0, .val (.int .i64 v1)] [some (43, [.str b1000000.f_s, .val (.int .i64 (IntKind.wrap .i64 (b1000000.f_at + 1))), .val (.int .i64 b1000000.f_e)])] ⟨[(1000000, 1000000)], [(1000000, 1000000)], [.own 1000000 0, .val (.int .i64 v1)], [(1000000, 43, [.str b1000000.f_s, .val (.int .i64 (IntKind.wrap .i64 (b1000000.f_at + 1))), .val (.int .i64 b1000000.f_e)])], .agg [.str r7.1.f_Name, .str r7.1.f_Text, .val (.int .i64 r7.1.f_Op), .tree (α := S_tmpl_Part) (S_tmpl_Part.mk [] [] 0 []) pre_S_tmpl_Part kids_S_tmpl_Part r7.1.f_Sub], [(1000000, 43, [.str r7.2.f_s, .val (.int .i64 r7.2.f_at), .val (.int .i64 r7.2.f_e)])]⟩, (MkOb 4 [.str [], .str [], .val (.int .i64 0), .val (.slice none 0 0)] 1 (.recs (α := S_tmpl_Part) (S_tmpl_Part.mk [] [] 0 []) E_tmpl_Part ([(S_tmpl_Part.mk [] [] 0 [])])) ∧ GoodR (.recs (α := S_tmpl_Part) (S_tmpl_Part.mk [] [] 0 []) E_tmpl_Part ([(S_tmpl_Part.mk [] [] 0 [])]))), (decide ((List.length r6.2 + List.length ([(S_tmpl_Part.mk [] [] 0 [])] : List (S_tmpl_Part))) * (64 + 1) ≤ limit)) = true, (AppOb (S_tmpl_Part.mk [] [] 0 []) E_tmpl_Part r6.2 (List.flatMap E_tmpl_Part ([(S_tmpl_Part.mk [] [] 0 [])] : List (S_tmpl_Part))) (List.length ([(S_tmpl_Part.mk [] [] 0 [])] : List (S_tmpl_Part))) (.recs (α := S_tmpl_Part) (S_tmpl_Part.mk [] [] 0 []) E_tmpl_Part (r6.2 ++ ([(S_tmpl_Part.mk [] [] 0 [])] : List (S_tmpl_Part)))) ∧ GoodR (.recs (α := S_tmpl_Part) (S_tmpl_Part.mk [] [] 0 []) E_tmpl_Part (r6.2 ++ ([(S_tmpl_Part.mk [] [] 0 [])] : List (S_tmpl_Part))))), (decide (0 ≤ (List.length r6.2 : Int) ∧ (List.length r6.2 : Int) < (List.length (r6.2 ++ ([(S_tmpl_Part.mk [] [] 0 [])] : List (S_tmpl_Part))) : Int))) = true, (decide (0 ≤ (List.length r6.2 : Int) ∧ (List.length r6.2 : Int) < (List.length (r6.2 ++ ([(S_tmpl_Part.mk [] [] 0 [])] : List (S_tmpl_Part))) : Int))) = true, UpdOb (S_tmpl_Part.mk [] [] 0 []) E_tmpl_Part (r6.2 ++ ([(S_tmpl_Part.mk [] [] 0 [])] : List (S_tmpl_Part))) (List.length r6.2 : Int) 0 [.str r7.1.f_Name, .str r7.1.f_Text, .val (.int .i64 r7.1.f_Op), .tree (α := S_tmpl_Part) (S_tmpl_Part.mk [] [] 0 []) pre_S_tmpl_Part kids_S_tmpl_Part r7.1.f_Sub] (.recs (α := S_tmpl_Part) (S_tmpl_Part.mk [] [] 0 []) E_tmpl_Part (List.set (r6.2 ++ ([(S_tmpl_Part.mk [] [] 0 [])] : List (S_tmpl_Part))) (Int.toNat (List.length r6.2 : Int)) r7.1))]) (by kernel_rfl) (by kernel_rfl) (AllP.cons (⟨(ok_tmpl_reader_reference__o0 R_tmpl_reader_parts__o0 hR_tmpl_reader_parts__o0 n v1 (S_tmpl_reader.mk b1000000.f_s (IntKind.wrap .i64 (b1000000.f_at + 1)) b1000000.f_e) _ hr7), by kernel_rfl, by kernel_rfl⟩) (AllP.cons (mkObW (weaks_eq (ds := [.str [], .str [], .val (.int .i64 0), .val (.slice none 0 0)]) (es := [.str [], .str [], .val (.int .i64 0), .tree (α := S_tmpl_Part) (S_tmpl_Part.mk [] [] 0 []) pre_S_tmpl_Part kids_S_tmpl_Part []]) (by kernel_rfl) (.cons (.refl _) (.cons (.refl _) (.cons (.refl _) (.cons (.zeroT _ _ _) .nil)))) (by kernel_rfl)) rfl (by kernel_rfl) (good_E_tmpl_Part _)) (AllP.cons hc8 (AllP.cons (appOb rfl rfl (good_E_tmpl_Part _)) (AllP.cons hc9 (AllP.cons hc9 (AllP.cons (updOb (by kernel_rfl)) AllP.nil))))))) ?_
      refine To.blockN ?_
      refine To.keep (kk := [0, 1, 5, 6, 7]) (kl := [5, 6, 126, 4360, 1000000]) (K' := [(0, .own 1000000 0), (1, .val (.int .i64 v1)), (5, .own 5 0), (6, .own 6 0), (7, .fn 25 [.own 6 0, .own 5 0])]) (L' := [(5, 23, [.row 126]), (6, 46, [.row 4360]), (126, 32, [.rowc false (α := S_tmpl_Part) (S_tmpl_Part.mk [] [] 0 []) E_tmpl_Part (List.set (r6.2 ++ ([(S_tmpl_Part.mk [] [] 0 [])] : List (S_tmpl_Part))) (Int.toNat (List.length r6.2 : Int)) r7.1)]), (4360, 5, [.rowc false (α := UInt8) 0 e8 r6.1]), (1000000, 43, [.str r7.2.f_s, .val (.int .i64 r7.2.f_at), .val (.int .i64 r7.2.f_e)])]) (by kernel_rfl) (by kernel_rfl) ?_
      refine To.pre (St.rename 126 4300 (by decide) (K' := [(0, .own 1000000 0), (1, .val (.int .i64 v1)), (5, .own 5 0), (6, .own 6 0), (7, .fn 25 [.own 6 0, .own 5 0])]) (L' := [(5, 23, [.row 4300]), (6, 46, [.row 4360]), (4300, 32, [.rowc false (α := S_tmpl_Part) (S_tmpl_Part.mk [] [] 0 []) E_tmpl_Part (List.set (r6.2 ++ ([(S_tmpl_Part.mk [] [] 0 [])] : List (S_tmpl_Part))) (Int.toNat (List.length r6.2 : Int)) r7.1)]), (4360, 5, [.rowc false (α := UInt8) 0 e8 r6.1]), (1000000, 43, [.str r7.2.f_s, .val (.int .i64 r7.2.f_at), .val (.int .i64 r7.2.f_e)])]) (by kernel_rfl) (by kernel_rfl) (by kernel_rfl)) ?_
      refine To.keep (kk := [0, 1, 5, 6, 7]) (kl := [5, 6, 4300, 4360, 1000000]) (K' := [(0, .own 1000000 0), (1, .val (.int .i64 v1)), (5, .own 5 0), (6, .own 6 0), (7, .fn 25 [.own 6 0, .own 5 0])]) (L' := [(5, 23, [.row 4300]), (6, 46, [.row 4360]), (4300, 32, [.rowc false (α := S_tmpl_Part) (S_tmpl_Part.mk [] [] 0 []) E_tmpl_Part (List.set (r6.2 ++ ([(S_tmpl_Part.mk [] [] 0 [])] : List (S_tmpl_Part))) (Int.toNat (List.length r6.2 : Int)) r7.1)]), (4360, 5, [.rowc false (α := UInt8) 0 e8 r6.1]), (1000000, 43, [.str r7.2.f_s, .val (.int .i64 r7.2.f_at), .val (.int .i64 r7.2.f_e)])]) (by kernel_rfl) (by kernel_rfl) ?_
      cases h
      exact hQ
    · replace h := if_f hb h
      refine Wp.seq ?_
      obtain ⟨r10, hr10, h⟩ := bind_of h
      refine Wp.region hΓ [] [] [(1, ⟨[(1000000, 6), (1000001, 5), (1010000, 4360), (1010100, 4300)], [(200, 4360), (300, 4300), (1000000, 6), (1000001, 5)], [.own 1000000 0, .own 1000001 0], [(1000000, 46, [.row 1010000]), (1000001, 23, [.row 1010100]), (1010000, 5, [.rowc false (α := UInt8) 0 e8 b6]), (1010100, 32, [.rowc false (α := S_tmpl_Part) (S_tmpl_Part.mk [] [] 0 []) E_tmpl_Part b5])], .tup [], [(200, 5, [.rowc false (α := UInt8) 0 e8 r10.1]), (300, 32, [.rowc false (α := S_tmpl_Part) (S_tmpl_Part.mk [] [] 0 []) E_tmpl_Part r10.2]), (1000000, 46, [.row 200]), (1000001, 23, [.row 300])]⟩)] [0, 1, 5, 6, 7] [5, 6, 4300, 4360, 1000000] (K' := [(0, .own 1000000 0), (1, .val (.int .i64 v1)), (5, .own 5 0), (6, .own 6 0), (7, .fn 25 [.own 6 0, .own 5 0])]) (L' := [(5, 23, [.row 4300]), (6, 46, [.row 4360]), (4300, 32, [.rowc false (α := S_tmpl_Part) (S_tmpl_Part.mk [] [] 0 []) E_tmpl_Part r10.2]), (4360, 5, [.rowc false (α := UInt8) 0 e8 r10.1]), (1000000, 43, [.str b1000000.f_s, .val (.int .i64 b1000000.f_at), .val (.int .i64 b1000000.f_e)])]) (ob := [CbOb (CallsB Tryd.prog) 25 [.own 6 0, .own 5 0] [some (46, [.row 4360]), some (23, [.row 4300]), some (5, [.rowc false (α := UInt8) 0 e8 b6]), some (32, [.rowc false (α := S_tmpl_Part) (S_tmpl_Part.mk [] [] 0 []) E_tmpl_Part b5])] ⟨[(1000000, 6), (1000001, 5), (1010000, 4360), (1010100, 4300)], [(200, 4360), (300, 4300), (1000000, 6), (1000001, 5)], [.own 1000000 0, .own 1000001 0], [(1000000, 46, [.row 1010000]), (1000001, 23, [.row 1010100]), (1010000, 5, [.rowc false (α := UInt8) 0 e8 b6]), (1010100, 32, [.rowc false (α := S_tmpl_Part) (S_tmpl_Part.mk [] [] 0 []) E_tmpl_Part b5])], .tup [], [(200, 5, [.rowc false (α := UInt8) 0 e8 r10.1]), (300, 32, [.rowc false (α := S_tmpl_Part) (S_tmpl_Part.mk [] [] 0 []) E_tmpl_Part r10.2]), (1000000, 46, [.row 200]), (1000001, 23, [.row 300])]⟩]) (by kernel_rfl) (AllP.cons (⟨(ok_tmpl_reader_parts_1__o0__o1 n b6 b5 _ hr10), by kernel_rfl, by kernel_rfl⟩) AllP.nil) ?_
      refine To.thenN ?_
      obtain ⟨r11, hr11, h⟩ := bind_of h
      obtain ⟨hc12, h⟩ := chk_of h
      obtain ⟨hc13, h⟩ := chk_of h
      refine Wp.regionO hm hΓ [] [(5, .recs (α := S_tmpl_Part) (S_tmpl_Part.mk [] [] 0 []) E_tmpl_Part ([(S_tmpl_Part.mk [] [] 0 [])])), (6, .recs (α := S_tmpl_Part) (S_tmpl_Part.mk [] [] 0 []) E_tmpl_Part (r10.2 ++ ([(S_tmpl_Part.mk [] [] 0 [])] : List (S_tmpl_Part)))), (8, .recs (α := S_tmpl_Part) (S_tmpl_Part.mk [] [] 0 []) E_tmpl_Part (List.set (r10.2 ++ ([(S_tmpl_Part.mk [] [] 0 [])] : List (S_tmpl_Part))) (Int.toNat (List.length r10.2 : Int)) r11.1))] [(3, ⟨[(1000000, 1000000)], [(1000000, 1000000)], [.own 1000000 0, .val (.int .i64 v1)], [(1000000, 43, [.str b1000000.f_s, .val (.int .i64 b1000000.f_at), .val (.int .i64 b1000000.f_e)])], .agg [.str r11.1.f_Name, .str r11.1.f_Text, .val (.int .i64 r11.1.f_Op), .tree (α := S_tmpl_Part) (S_tmpl_Part.mk [] [] 0 []) pre_S_tmpl_Part kids_S_tmpl_Part r11.1.f_Sub], [(1000000, 43, [.str r11.2.f_s, .val (.int .i64 r11.2.f_at), .val (.int .i64 r11.2.f_e)])]⟩)] [0, 1, 5, 6, 7, 70, 71, 72, 73, 74, 75, 76, 77] [5, 6, 75, 76, 4300, 4360, 1000000] [0, 1, 5, 6, 7] [5, 6, 76, 4360, 1000000] (K' := [(0, .own 1000000 0), (1, .val (.int .i64 v1)), (5, .own 5 0), (6, .own 6 0), (7, .fn 25 [.own 6 0, .own 5 0])]) (L' := [(5, 23, [.row 76]), (6, 46, [.row 4360]), (76, 32, [.rowc false (α := S_tmpl_Part) (S_tmpl_Part.mk [] [] 0 []) E_tmpl_Part (List.set (r10.2 ++ ([(S_tmpl_Part.mk [] [] 0 [])] : List (S_tmpl_Part))) (Int.toNat (List.length r10.2 : Int)) r11.1)]), (4360, 5, [.rowc false (α := UInt8) 0 e8 r10.1]), (1000000, 43, [.str r11.2.f_s, .val (.int .i64 r11.2.f_at), .val (.int .i64 r11.2.f_e)])]) (ob := [CbOb (CallsB Tryd.prog) 28 [.own 1000000 0, .val (.int .i64 v1)] [some (43, [.str b1000000.f_s, .val (.int .i64 b1000000.f_at), .val (.int .i64 b1000000.f_e)])] ⟨[(1000000, 1000000)], [(1000000, 1000000)], [.own 1000000 0, .val (.int .i64 v1)], [(1000000, 43, [.str b1000000.f_s, .val (.int .i64 b1000000.f_at), .val (.int .i64 b1000000.f_e)])], .agg [.str r11.1.f_Name, .str r11.1.f_Text, .val (.int .i64 r11.1.f_Op), .tree (α := S_tmpl_Part) (S_tmpl_Part.mk [] [] 0 []) pre_S_tmpl_Part kids_S_tmpl_Part r11.1.f_Sub], [(1000000, 43, [.str r11.2.f_s, .val (.int .i64 r11.2.f_at), .val (.int .i64 r11.2.f_e)])]⟩, (MkOb 4 [.str [], .str [], .val (.int .i64 0), .val (.slice none 0 0)] 1 (.recs (α := S_tmpl_Part) (S_tmpl_Part.mk [] [] 0 []) E_tmpl_Part ([(S_tmpl_Part.mk [] [] 0 [])])) ∧ GoodR (.recs (α := S_tmpl_Part) (S_tmpl_Part.mk [] [] 0 []) E_tmpl_Part ([(S_tmpl_Part.mk [] [] 0 [])]))), (decide ((List.length r10.2 + List.length ([(S_tmpl_Part.mk [] [] 0 [])] : List (S_tmpl_Part))) * (64 + 1) ≤ limit)) = true, (AppOb (S_tmpl_Part.mk [] [] 0 []) E_tmpl_Part r10.2 (List.flatMap E_tmpl_Part ([(S_tmpl_Part.mk [] [] 0 [])] : List (S_tmpl_Part))) (List.length ([(S_tmpl_Part.mk [] [] 0 [])] : List (S_tmpl_Part))) (.recs (α := S_tmpl_Part) (S_tmpl_Part.mk [] [] 0 []) E_tmpl_Part (r10.2 ++ ([(S_tmpl_Part.mk [] [] 0 [])] : List (S_tmpl_Part)))) ∧ GoodR (.recs (α := S_tmpl_Part) (S_tmpl_Part.mk [] [] 0 []) E_tmpl_Part (r10.2 ++ ([(S_tmpl_Part.mk [] [] 0 [])] : List (S_tmpl_Part))))), (decide (0 ≤ (List.length r10.2 : Int) ∧ (List.length r10.2 : Int) < (List.length (r10.2 ++ ([(S_tmpl_Part.mk [] [] 0 [])] : List (S_tmpl_Part))) : Int))) = true, (decide (0 ≤ (List.length r10.2 : Int) ∧ (List.length r10.2 : Int) < (List.length (r10.2 ++ ([(S_tmpl_Part.mk [] [] 0 [])] : List (S_tmpl_Part))) : Int))) = true, UpdOb (S_tmpl_Part.mk [] [] 0 []) E_tmpl_Part (r10.2 ++ ([(S_tmpl_Part.mk [] [] 0 [])] : List (S_tmpl_Part))) (List.length r10.2 : Int) 0 [.str r11.1.f_Name, .str r11.1.f_Text, .val (.int .i64 r11.1.f_Op), .tree (α := S_tmpl_Part) (S_tmpl_Part.mk [] [] 0 []) pre_S_tmpl_Part kids_S_tmpl_Part r11.1.f_Sub] (.recs (α := S_tmpl_Part) (S_tmpl_Part.mk [] [] 0 []) E_tmpl_Part (List.set (r10.2 ++ ([(S_tmpl_Part.mk [] [] 0 [])] : List (S_tmpl_Part))) (Int.toNat (List.length r10.2 : Int)) r11.1))]) (by kernel_rfl) (by kernel_rfl) (AllP.cons (⟨(ok_tmpl_reader_plain__o0 n v1 b1000000 _ hr11), by kernel_rfl, by kernel_rfl⟩) (AllP.cons (mkObW (weaks_eq (ds := [.str [], .str [], .val (.int .i64 0), .val (.slice none 0 0)]) (es := [.str [], .str [], .val (.int .i64 0), .tree (α := S_tmpl_Part) (S_tmpl_Part.mk [] [] 0 []) pre_S_tmpl_Part kids_S_tmpl_Part []]) (by kernel_rfl) (.cons (.refl _) (.cons (.refl _) (.cons (.refl _) (.cons (.zeroT _ _ _) .nil)))) (by kernel_rfl)) rfl (by kernel_rfl) (good_E_tmpl_Part _)) (AllP.cons hc12 (AllP.cons (appOb rfl rfl (good_E_tmpl_Part _)) (AllP.cons hc13 (AllP.cons hc13 (AllP.cons (updOb (by kernel_rfl)) AllP.nil))))))) ?_
      refine To.blockN ?_
      refine To.keep (kk := [0, 1, 5, 6, 7]) (kl := [5, 6, 76, 4360, 1000000]) (K' := [(0, .own 1000000 0), (1, .val (.int .i64 v1)), (5, .own 5 0), (6, .own 6 0), (7, .fn 25 [.own 6 0, .own 5 0])]) (L' := [(5, 23, [.row 76]), (6, 46, [.row 4360]), (76, 32, [.rowc false (α := S_tmpl_Part) (S_tmpl_Part.mk [] [] 0 []) E_tmpl_Part (List.set (r10.2 ++ ([(S_tmpl_Part.mk [] [] 0 [])] : List (S_tmpl_Part))) (Int.toNat (List.length r10.2 : Int)) r11.1)]), (4360, 5, [.rowc false (α := UInt8) 0 e8 r10.1]), (1000000, 43, [.str r11.2.f_s, .val (.int .i64 r11.2.f_at), .val (.int .i64 r11.2.f_e)])]) (by kernel_rfl) (by kernel_rfl) ?_
      refine To.pre (St.rename 76 4300 (by decide) (K' := [(0, .own 1000000 0), (1, .val (.int .i64 v1)), (5, .own 5 0), (6, .own 6 0), (7, .fn 25 [.own 6 0, .own 5 0])]) (L' := [(5, 23, [.row 4300]), (6, 46, [.row 4360]), (4300, 32, [.rowc false (α := S_tmpl_Part) (S_tmpl_Part.mk [] [] 0 []) E_tmpl_Part (List.set (r10.2 ++ ([(S_tmpl_Part.mk [] [] 0 [])] : List (S_tmpl_Part))) (Int.toNat (List.length r10.2 : Int)) r11.1)]), (4360, 5, [.rowc false (α := UInt8) 0 e8 r10.1]), (1000000, 43, [.str r11.2.f_s, .val (.int .i64 r11.2.f_at), .val (.int .i64 r11.2.f_e)])]) (by kernel_rfl) (by kernel_rfl) (by kernel_rfl)) ?_
      refine To.keep (kk := [0, 1, 5, 6, 7]) (kl := [5, 6, 4300, 4360, 1000000]) (K' := [(0, .own 1000000 0), (1, .val (.int .i64 v1)), (5, .own 5 0), (6, .own 6 0), (7, .fn 25 [.own 6 0, .own 5 0])]) (L' := [(5, 23, [.row 4300]), (6, 46, [.row 4360]), (4300, 32, [.rowc false (α := S_tmpl_Part) (S_tmpl_Part.mk [] [] 0 []) E_tmpl_Part (List.set (r10.2 ++ ([(S_tmpl_Part.mk [] [] 0 [])] : List (S_tmpl_Part))) (Int.toNat (List.length r10.2 : Int)) r11.1)]), (4360, 5, [.rowc false (α := UInt8) 0 e8 r10.1]), (1000000, 43, [.str r11.2.f_s, .val (.int .i64 r11.2.f_at), .val (.int .i64 r11.2.f_e)])]) (by kernel_rfl) (by kernel_rfl) ?_
      cases h
      exact hQ
mutual
def tmpl_reader_parts__o0_g1_e (R_tmpl_reader_parts__o0 : Int → S_tmpl_reader → Option ((List (S_tmpl_Part)) × S_tmpl_reader)) (n : Nat) : Nat → Int → S_tmpl_reader → Option ((List (S_tmpl_Part)) × S_tmpl_reader)
  | 0, _, _ => none
  | k + 1, v1, b1000000 => if ((!(((decide (v1 > 1)) == true) && ((bif (b1000000.f_e != 0) then true else (b1000000.f_at == (List.length b1000000.f_s : Int))) == false)) || decide (0 ≤ b1000000.f_at ∧ b1000000.f_at < (List.length b1000000.f_s : Int)))) = true then (lett ((bif (bif (b1000000.f_e != 0) then true else (b1000000.f_at == (List.length b1000000.f_s : Int))) then true else (bif (decide (v1 > 1)) then ((((b1000000.f_s)[Int.toNat b1000000.f_at]?.getD 0).toNat : Int) == 125) else false)) : Bool) fun x1 =>
  if x1 = true then ((tmpl_reader_parts_1__o0__o1 n [] []).bind fun r2 =>
  some (r2.2, b1000000))
  else (if (decide (0 ≤ b1000000.f_at ∧ b1000000.f_at < (List.length b1000000.f_s : Int))) = true then (if ((((b1000000.f_s)[Int.toNat b1000000.f_at]?.getD 0).toNat : Int) != 36) = true then (if (decide ((List.length ([] : List (UInt8)) + List.length ([((b1000000.f_s)[Int.toNat b1000000.f_at]?.getD 0)] : List (UInt8))) * (1 + 1) ≤ limit)) = true then (tmpl_reader_parts__o0_g1_0 R_tmpl_reader_parts__o0 n k v1 [] (([] : List (UInt8)) ++ ([((b1000000.f_s)[Int.toNat b1000000.f_at]?.getD 0)] : List (UInt8))) (S_tmpl_reader.mk b1000000.f_s (IntKind.wrap .i64 (b1000000.f_at + 1)) b1000000.f_e)) else none)
  else ((tmpl_reader_parts__o0_j2 R_tmpl_reader_parts__o0 n v1 (((b1000000.f_s)[Int.toNat b1000000.f_at]?.getD 0).toNat : Int) [] [] (S_tmpl_reader.mk b1000000.f_s (IntKind.wrap .i64 (b1000000.f_at + 1)) b1000000.f_e)).bind fun o4 =>
  tmpl_reader_parts__o0_g1_0 R_tmpl_reader_parts__o0 n k v1 o4.1 o4.2.1 o4.2.2)) else none)) else none
def tmpl_reader_parts__o0_g1_0 (R_tmpl_reader_parts__o0 : Int → S_tmpl_reader → Option ((List (S_tmpl_Part)) × S_tmpl_reader)) (n : Nat) : Nat → Int → (List (S_tmpl_Part)) → (List (UInt8)) → S_tmpl_reader → Option ((List (S_tmpl_Part)) × S_tmpl_reader)
  | 0, _, _, _, _ => none
  | k + 1, v1, b5, b6, b1000000 => if ((!(((decide (v1 > 1)) == true) && ((bif (b1000000.f_e != 0) then true else (b1000000.f_at == (List.length b1000000.f_s : Int))) == false)) || decide (0 ≤ b1000000.f_at ∧ b1000000.f_at < (List.length b1000000.f_s : Int)))) = true then (lett ((bif (bif (b1000000.f_e != 0) then true else (b1000000.f_at == (List.length b1000000.f_s : Int))) then true else (bif (decide (v1 > 1)) then ((((b1000000.f_s)[Int.toNat b1000000.f_at]?.getD 0).toNat : Int) == 125) else false)) : Bool) fun x1 =>
  if x1 = true then ((tmpl_reader_parts_1__o0__o1 n b6 b5).bind fun r2 =>
  some (r2.2, b1000000))
  else (if (decide (0 ≤ b1000000.f_at ∧ b1000000.f_at < (List.length b1000000.f_s : Int))) = true then (if ((((b1000000.f_s)[Int.toNat b1000000.f_at]?.getD 0).toNat : Int) != 36) = true then (if (decide ((List.length b6 + List.length ([((b1000000.f_s)[Int.toNat b1000000.f_at]?.getD 0)] : List (UInt8))) * (1 + 1) ≤ limit)) = true then (tmpl_reader_parts__o0_g1_0 R_tmpl_reader_parts__o0 n k v1 b5 (b6 ++ ([((b1000000.f_s)[Int.toNat b1000000.f_at]?.getD 0)] : List (UInt8))) (S_tmpl_reader.mk b1000000.f_s (IntKind.wrap .i64 (b1000000.f_at + 1)) b1000000.f_e)) else none)
  else ((tmpl_reader_parts__o0_j3 R_tmpl_reader_parts__o0 n v1 (((b1000000.f_s)[Int.toNat b1000000.f_at]?.getD 0).toNat : Int) b5 b6 (S_tmpl_reader.mk b1000000.f_s (IntKind.wrap .i64 (b1000000.f_at + 1)) b1000000.f_e)).bind fun o4 =>
  tmpl_reader_parts__o0_g1_0 R_tmpl_reader_parts__o0 n k v1 o4.1 o4.2.1 o4.2.2)) else none)) else none
end
theorem ok_tmpl_reader_parts__o0_g1 (R_tmpl_reader_parts__o0 : Int → S_tmpl_reader → Option ((List (S_tmpl_Part)) × S_tmpl_reader)) (hR_tmpl_reader_parts__o0 : ∀ (a1 : Int) (h0 : S_tmpl_reader) (r : (List (S_tmpl_Part)) × S_tmpl_reader), R_tmpl_reader_parts__o0 a1 h0 = some r → CallsB Tryd.prog 16 [.own 1000000 0, .val (.int .i64 a1)] [(1000000, 43, [.str h0.f_s, .val (.int .i64 h0.f_at), .val (.int .i64 h0.f_e)])] (.recs (α := S_tmpl_Part) (S_tmpl_Part.mk [] [] 0 []) E_tmpl_Part r.1) [(1000000, 43, [.str r.2.f_s, .val (.int .i64 r.2.f_at), .val (.int .i64 r.2.f_e)])]) (n : Nat) {F0 : Fz} {w0 : Pt Tryd.prog} {Q : Exit → Act → World → Prop} (k : Nat) : (∀ (v1 : Int) (b1000000 : S_tmpl_reader) (o : (List (S_tmpl_Part)) × S_tmpl_reader), tmpl_reader_parts__o0_g1_e R_tmpl_reader_parts__o0 n k v1 b1000000 = some o → To 128 F0 w0 [(4, .row 1004)] [(1004, 32, [.rowc false (α := S_tmpl_Part) (S_tmpl_Part.mk [] [] 0 []) E_tmpl_Part o.1]), (1000000, 43, [.str o.2.f_s, .val (.int .i64 o.2.f_at), .val (.int .i64 o.2.f_e)])] .ret Q → WG Tryd.prog 128 F0 w0 [(0, .own 1000000 0), (1, .val (.int .i64 v1))] [(1000000, 43, [.str b1000000.f_s, .val (.int .i64 b1000000.f_at), .val (.int .i64 b1000000.f_e)])] (cI (cB (cF Tryd.f16))) (cI (cB (cF Tryd.f16))) Q) ∧
  (∀ (v1 : Int) (b5 : List (S_tmpl_Part)) (b6 : List (UInt8)) (b1000000 : S_tmpl_reader) (o : (List (S_tmpl_Part)) × S_tmpl_reader), tmpl_reader_parts__o0_g1_0 R_tmpl_reader_parts__o0 n k v1 b5 b6 b1000000 = some o → To 128 F0 w0 [(4, .row 1004)] [(1004, 32, [.rowc false (α := S_tmpl_Part) (S_tmpl_Part.mk [] [] 0 []) E_tmpl_Part o.1]), (1000000, 43, [.str o.2.f_s, .val (.int .i64 o.2.f_at), .val (.int .i64 o.2.f_e)])] .ret Q → WG Tryd.prog 128 F0 w0 [(0, .own 1000000 0), (1, .val (.int .i64 v1)), (5, .own 5 0), (6, .own 6 0), (7, .fn 25 [.own 6 0, .own 5 0])] [(5, 23, [.row 4300]), (6, 46, [.row 4360]), (4300, 32, [.rowc false (α := S_tmpl_Part) (S_tmpl_Part.mk [] [] 0 []) E_tmpl_Part b5]), (4360, 5, [.rowc false (α := UInt8) 0 e8 b6]), (1000000, 43, [.str b1000000.f_s, .val (.int .i64 b1000000.f_at), .val (.int .i64 b1000000.f_e)])] (cI (cB (cF Tryd.f16))) (cG 0 (cB (cF Tryd.f16))) Q) := by
  induction k with
  | zero => exact ⟨(by intro v1 b1000000 o h; cases h), (by intro v1 b5 b6 b1000000 o h; cases h)⟩
  | succ k ih =>
    refine ⟨?_, ?_⟩
    · intro v1 b1000000 o h hQ
      rw [tmpl_reader_parts__o0_g1_e] at h
      refine WG.pass ?_
      refine Wp.seq ?_
      refine Wp.region hΓ [] [] [] [0, 1, 5] [5, 1000000] (K' := [(0, .own 1000000 0), (1, .val (.int .i64 v1)), (5, .own 5 0)]) (L' := [(5, 23, [.val (.slice none 0 0)]), (1000000, 43, [.str b1000000.f_s, .val (.int .i64 b1000000.f_at), .val (.int .i64 b1000000.f_e)])]) (ob := []) (by kernel_rfl) AllP.nil ?_
      refine To.thenN ?_
      refine Wp.seq ?_
      refine Wp.region hΓ [] [] [] [0, 1, 5, 6] [5, 6, 1000000] (K' := [(0, .own 1000000 0), (1, .val (.int .i64 v1)), (5, .own 5 0), (6, .own 6 0)]) (L' := [(5, 23, [.val (.slice none 0 0)]), (6, 46, [.val (.slice none 0 0)]), (1000000, 43, [.str b1000000.f_s, .val (.int .i64 b1000000.f_at), .val (.int .i64 b1000000.f_e)])]) (ob := []) (by kernel_rfl) AllP.nil ?_
      refine To.thenN ?_
      refine Wp.seq ?_
      refine Wp.region hΓ [] [] [] [0, 1, 5, 6, 7] [5, 6, 1000000] (K' := [(0, .own 1000000 0), (1, .val (.int .i64 v1)), (5, .own 5 0), (6, .own 6 0), (7, .fn 25 [.own 6 0, .own 5 0])]) (L' := [(5, 23, [.val (.slice none 0 0)]), (6, 46, [.val (.slice none 0 0)]), (1000000, 43, [.str b1000000.f_s, .val (.int .i64 b1000000.f_at), .val (.int .i64 b1000000.f_e)])]) (ob := []) (by kernel_rfl) AllP.nil ?_
      refine To.thenN ?_
      refine Wp.seq ?_
      refine Wp.keep (kk := [0, 1, 5, 6, 7]) (kl := [5, 6, 1000000]) (K' := [(0, .own 1000000 0), (1, .val (.int .i64 v1)), (5, .own 5 0), (6, .own 6 0), (7, .fn 25 [.own 6 0, .own 5 0])]) (L' := [(5, 23, [.val (.slice none 0 0)]), (6, 46, [.val (.slice none 0 0)]), (1000000, 43, [.str b1000000.f_s, .val (.int .i64 b1000000.f_at), .val (.int .i64 b1000000.f_e)])]) (by kernel_rfl) (by kernel_rfl) ?_
      refine Wp.pre (St.vacantB 5 0 4300 32 (good_E_tmpl_Part _) (by decide) (by kernel_rfl) (L' := [(5, 23, [.row 4300]), (6, 46, [.val (.slice none 0 0)]), (1000000, 43, [.str b1000000.f_s, .val (.int .i64 b1000000.f_at), .val (.int .i64 b1000000.f_e)])]) (by kernel_rfl)) ?_
      refine Wp.keep (kk := [0, 1, 5, 6, 7]) (kl := [5, 6, 4300, 1000000]) (K' := [(0, .own 1000000 0), (1, .val (.int .i64 v1)), (5, .own 5 0), (6, .own 6 0), (7, .fn 25 [.own 6 0, .own 5 0])]) (L' := [(5, 23, [.row 4300]), (6, 46, [.val (.slice none 0 0)]), (4300, 32, [.rowc false (α := S_tmpl_Part) (S_tmpl_Part.mk [] [] 0 []) E_tmpl_Part []]), (1000000, 43, [.str b1000000.f_s, .val (.int .i64 b1000000.f_at), .val (.int .i64 b1000000.f_e)])]) (by kernel_rfl) (by kernel_rfl) ?_
      refine Wp.pre (St.vacantB 6 0 4360 5 (good8 _) (by decide) (by kernel_rfl) (L' := [(5, 23, [.row 4300]), (6, 46, [.row 4360]), (4300, 32, [.rowc false (α := S_tmpl_Part) (S_tmpl_Part.mk [] [] 0 []) E_tmpl_Part []]), (1000000, 43, [.str b1000000.f_s, .val (.int .i64 b1000000.f_at), .val (.int .i64 b1000000.f_e)])]) (by kernel_rfl)) ?_
      refine Wp.keep (kk := [0, 1, 5, 6, 7]) (kl := [5, 6, 4300, 4360, 1000000]) (K' := [(0, .own 1000000 0), (1, .val (.int .i64 v1)), (5, .own 5 0), (6, .own 6 0), (7, .fn 25 [.own 6 0, .own 5 0])]) (L' := [(5, 23, [.row 4300]), (6, 46, [.row 4360]), (4300, 32, [.rowc false (α := S_tmpl_Part) (S_tmpl_Part.mk [] [] 0 []) E_tmpl_Part []]), (4360, 5, [.rowc false (α := UInt8) 0 e8 []]), (1000000, 43, [.str b1000000.f_s, .val (.int .i64 b1000000.f_at), .val (.int .i64 b1000000.f_e)])]) (by kernel_rfl) (by kernel_rfl) ?_
      refine Wp.label ?_
      refine To.thenN ?_
      refine Wp.seq ?_
      refine Wp.seq ?_
      obtain ⟨hc6, h⟩ := chk_of h
      obtain ⟨x1, hx1, h⟩ := lett_of h
      refine Wp.regionD hm hΓ [] [0, 1, 5, 6, 7, 42] [5, 6, 4300, 4360, 1000000] (K' := [(0, .own 1000000 0), (1, .val (.int .i64 v1)), (5, .own 5 0), (6, .own 6 0), (7, .fn 25 [.own 6 0, .own 5 0]), (42, .val (.bool (bif (bif (b1000000.f_e != 0) then true else (b1000000.f_at == (List.length b1000000.f_s : Int))) then true else (bif (decide (v1 > 1)) then ((((b1000000.f_s)[Int.toNat b1000000.f_at]?.getD 0).toNat : Int) == 125) else false))))]) (L' := [(5, 23, [.row 4300]), (6, 46, [.row 4360]), (4300, 32, [.rowc false (α := S_tmpl_Part) (S_tmpl_Part.mk [] [] 0 []) E_tmpl_Part []]), (4360, 5, [.rowc false (α := UInt8) 0 e8 []]), (1000000, 43, [.str b1000000.f_s, .val (.int .i64 b1000000.f_at), .val (.int .i64 b1000000.f_e)])]) (ob := [(!(((decide (v1 > 1)) == true) && ((bif (b1000000.f_e != 0) then true else (b1000000.f_at == (List.length b1000000.f_s : Int))) == false)) || decide (0 ≤ b1000000.f_at ∧ b1000000.f_at < (List.length b1000000.f_s : Int))) = true]) (by kernel_rfl) (AllP.cons hc6 AllP.nil) ?_
      refine To.eq (K' := [(0, .own 1000000 0), (1, .val (.int .i64 v1)), (5, .own 5 0), (6, .own 6 0), (7, .fn 25 [.own 6 0, .own 5 0]), (42, .val (.bool x1))]) (L' := [(5, 23, [.row 4300]), (6, 46, [.row 4360]), (4300, 32, [.rowc false (α := S_tmpl_Part) (S_tmpl_Part.mk [] [] 0 []) E_tmpl_Part []]), (4360, 5, [.rowc false (α := UInt8) 0 e8 []]), (1000000, 43, [.str b1000000.f_s, .val (.int .i64 b1000000.f_at), .val (.int .i64 b1000000.f_e)])]) (by cases hx1; rfl) (by cases hx1; rfl) ?_
      refine To.thenN ?_
      refine Wp.cond (b := x1) (by kernel_rfl) (fun hb => ?_) (fun hb => ?_)
      · replace h := if_t hb h
        refine Wp.seq ?_
        obtain ⟨r2, hr2, h⟩ := bind_of h
        refine Wp.region hΓ [] [] [(1, ⟨[(1000000, 6), (1000001, 5), (1010000, 4360), (1010100, 4300)], [(200, 4360), (300, 4300), (1000000, 6), (1000001, 5)], [.own 1000000 0, .own 1000001 0], [(1000000, 46, [.row 1010000]), (1000001, 23, [.row 1010100]), (1010000, 5, [.rowc false (α := UInt8) 0 e8 []]), (1010100, 32, [.rowc false (α := S_tmpl_Part) (S_tmpl_Part.mk [] [] 0 []) E_tmpl_Part []])], .tup [], [(200, 5, [.rowc false (α := UInt8) 0 e8 r2.1]), (300, 32, [.rowc false (α := S_tmpl_Part) (S_tmpl_Part.mk [] [] 0 []) E_tmpl_Part r2.2]), (1000000, 46, [.row 200]), (1000001, 23, [.row 300])]⟩)] [5] [5, 4300, 1000000] (K' := [(5, .own 5 0)]) (L' := [(5, 23, [.row 4300]), (4300, 32, [.rowc false (α := S_tmpl_Part) (S_tmpl_Part.mk [] [] 0 []) E_tmpl_Part r2.2]), (1000000, 43, [.str b1000000.f_s, .val (.int .i64 b1000000.f_at), .val (.int .i64 b1000000.f_e)])]) (ob := [CbOb (CallsB Tryd.prog) 25 [.own 6 0, .own 5 0] [some (46, [.row 4360]), some (23, [.row 4300]), some (5, [.rowc false (α := UInt8) 0 e8 []]), some (32, [.rowc false (α := S_tmpl_Part) (S_tmpl_Part.mk [] [] 0 []) E_tmpl_Part []])] ⟨[(1000000, 6), (1000001, 5), (1010000, 4360), (1010100, 4300)], [(200, 4360), (300, 4300), (1000000, 6), (1000001, 5)], [.own 1000000 0, .own 1000001 0], [(1000000, 46, [.row 1010000]), (1000001, 23, [.row 1010100]), (1010000, 5, [.rowc false (α := UInt8) 0 e8 []]), (1010100, 32, [.rowc false (α := S_tmpl_Part) (S_tmpl_Part.mk [] [] 0 []) E_tmpl_Part []])], .tup [], [(200, 5, [.rowc false (α := UInt8) 0 e8 r2.1]), (300, 32, [.rowc false (α := S_tmpl_Part) (S_tmpl_Part.mk [] [] 0 []) E_tmpl_Part r2.2]), (1000000, 46, [.row 200]), (1000001, 23, [.row 300])]⟩]) (by kernel_rfl) (AllP.cons (⟨(ok_tmpl_reader_parts_1__o0__o1 n [] [] _ hr2), by kernel_rfl, by kernel_rfl⟩) AllP.nil) ?_
        refine To.thenN ?_
        refine Wp.seq ?_
        refine Wp.region hΓ [] [] [] [4] [4300, 1000000] (K' := [(4, .row 4300)]) (L' := [(4300, 32, [.rowc false (α := S_tmpl_Part) (S_tmpl_Part.mk [] [] 0 []) E_tmpl_Part r2.2]), (1000000, 43, [.str b1000000.f_s, .val (.int .i64 b1000000.f_at), .val (.int .i64 b1000000.f_e)])]) (ob := []) (by kernel_rfl) AllP.nil ?_
        refine To.thenN ?_
        refine Wp.ret ?_
        refine To.thenR ?_
        refine To.goesO (.inr (.inl rfl)) ?_
        refine To.keep (kk := [4]) (kl := [4300, 1000000]) (K' := [(4, .row 4300)]) (L' := [(4300, 32, [.rowc false (α := S_tmpl_Part) (S_tmpl_Part.mk [] [] 0 []) E_tmpl_Part r2.2]), (1000000, 43, [.str b1000000.f_s, .val (.int .i64 b1000000.f_at), .val (.int .i64 b1000000.f_e)])]) (by kernel_rfl) (by kernel_rfl) ?_
        refine To.pre (St.rename 4300 1004 (by decide) (K' := [(4, .row 1004)]) (L' := [(1004, 32, [.rowc false (α := S_tmpl_Part) (S_tmpl_Part.mk [] [] 0 []) E_tmpl_Part r2.2]), (1000000, 43, [.str b1000000.f_s, .val (.int .i64 b1000000.f_at), .val (.int .i64 b1000000.f_e)])]) (by kernel_rfl) (by kernel_rfl) (by kernel_rfl)) ?_
        refine To.keep (kk := [4]) (kl := [1004, 1000000]) (K' := [(4, .row 1004)]) (L' := [(1004, 32, [.rowc false (α := S_tmpl_Part) (S_tmpl_Part.mk [] [] 0 []) E_tmpl_Part r2.2]), (1000000, 43, [.str b1000000.f_s, .val (.int .i64 b1000000.f_at), .val (.int .i64 b1000000.f_e)])]) (by kernel_rfl) (by kernel_rfl) ?_
        cases h
        exact hQ
      · replace h := if_f hb h
        refine Wp.skip ?_
        refine To.thenN ?_
        refine Wp.seq ?_
        obtain ⟨hc5, h⟩ := chk_of h
        refine Wp.regionD hm hΓ [] [0, 1, 5, 6, 7, 8] [5, 6, 4300, 4360, 1000000] (K' := [(0, .own 1000000 0), (1, .val (.int .i64 v1)), (5, .own 5 0), (6, .own 6 0), (7, .fn 25 [.own 6 0, .own 5 0]), (8, .val (.int .u8 (((b1000000.f_s)[Int.toNat b1000000.f_at]?.getD 0).toNat : Int)))]) (L' := [(5, 23, [.row 4300]), (6, 46, [.row 4360]), (4300, 32, [.rowc false (α := S_tmpl_Part) (S_tmpl_Part.mk [] [] 0 []) E_tmpl_Part []]), (4360, 5, [.rowc false (α := UInt8) 0 e8 []]), (1000000, 43, [.str b1000000.f_s, .val (.int .i64 b1000000.f_at), .val (.int .i64 b1000000.f_e)])]) (ob := [(decide (0 ≤ b1000000.f_at ∧ b1000000.f_at < (List.length b1000000.f_s : Int))) = true]) (by kernel_rfl) (AllP.cons hc5 AllP.nil) ?_
        refine To.thenN ?_
        refine Wp.seq ?_
        refine Wp.region hΓ [] [] [] [0, 1, 5, 6, 7, 8] [5, 6, 4300, 4360, 1000000] (K' := [(0, .own 1000000 0), (1, .val (.int .i64 v1)), (5, .own 5 0), (6, .own 6 0), (7, .fn 25 [.own 6 0, .own 5 0]), (8, .val (.int .u8 (((b1000000.f_s)[Int.toNat b1000000.f_at]?.getD 0).toNat : Int)))]) (L' := [(5, 23, [.row 4300]), (6, 46, [.row 4360]), (4300, 32, [.rowc false (α := S_tmpl_Part) (S_tmpl_Part.mk [] [] 0 []) E_tmpl_Part []]), (4360, 5, [.rowc false (α := UInt8) 0 e8 []]), (1000000, 43, [.str b1000000.f_s, .val (.int .i64 (IntKind.wrap .i64 (b1000000.f_at + 1))), .val (.int .i64 b1000000.f_e)])]) (ob := []) (by kernel_rfl) AllP.nil ?_
        refine To.thenN ?_
        refine Wp.seq ?_
        refine Wp.seq ?_
        refine Wp.region hΓ [] [] [] [0, 1, 5, 6, 7, 8, 63] [5, 6, 4300, 4360, 1000000] (K' := [(0, .own 1000000 0), (1, .val (.int .i64 v1)), (5, .own 5 0), (6, .own 6 0), (7, .fn 25 [.own 6 0, .own 5 0]), (8, .val (.int .u8 (((b1000000.f_s)[Int.toNat b1000000.f_at]?.getD 0).toNat : Int))), (63, .val (.bool ((((b1000000.f_s)[Int.toNat b1000000.f_at]?.getD 0).toNat : Int) != 36)))]) (L' := [(5, 23, [.row 4300]), (6, 46, [.row 4360]), (4300, 32, [.rowc false (α := S_tmpl_Part) (S_tmpl_Part.mk [] [] 0 []) E_tmpl_Part []]), (4360, 5, [.rowc false (α := UInt8) 0 e8 []]), (1000000, 43, [.str b1000000.f_s, .val (.int .i64 (IntKind.wrap .i64 (b1000000.f_at + 1))), .val (.int .i64 b1000000.f_e)])]) (ob := []) (by kernel_rfl) AllP.nil ?_
        refine To.thenN ?_
        refine Wp.cond (b := ((((b1000000.f_s)[Int.toNat b1000000.f_at]?.getD 0).toNat : Int) != 36)) (by kernel_rfl) (fun hb => ?_) (fun hb => ?_)
        · replace h := if_t hb h
          refine Wp.seq ?_
          obtain ⟨hc3, h⟩ := chk_of h
          refine Wp.region hΓ [] [(2, .recs (α := UInt8) 0 e8 ([((b1000000.f_s)[Int.toNat b1000000.f_at]?.getD 0)])), (3, .recs (α := UInt8) 0 e8 (([] : List (UInt8)) ++ ([((b1000000.f_s)[Int.toNat b1000000.f_at]?.getD 0)] : List (UInt8))))] [] [0, 1, 5, 6, 7] [5, 6, 67, 4300, 1000000] (K' := [(0, .own 1000000 0), (1, .val (.int .i64 v1)), (5, .own 5 0), (6, .own 6 0), (7, .fn 25 [.own 6 0, .own 5 0])]) (L' := [(5, 23, [.row 4300]), (6, 46, [.row 67]), (67, 5, [.rowc false (α := UInt8) 0 e8 (([] : List (UInt8)) ++ ([((b1000000.f_s)[Int.toNat b1000000.f_at]?.getD 0)] : List (UInt8)))]), (4300, 32, [.rowc false (α := S_tmpl_Part) (S_tmpl_Part.mk [] [] 0 []) E_tmpl_Part []]), (1000000, 43, [.str b1000000.f_s, .val (.int .i64 (IntKind.wrap .i64 (b1000000.f_at + 1))), .val (.int .i64 b1000000.f_e)])]) (ob := [(MkOb 1 [.val (.int .u8 (((b1000000.f_s)[Int.toNat b1000000.f_at]?.getD 0).toNat : Int))] 1 (.recs (α := UInt8) 0 e8 ([((b1000000.f_s)[Int.toNat b1000000.f_at]?.getD 0)])) ∧ GoodR (.recs (α := UInt8) 0 e8 ([((b1000000.f_s)[Int.toNat b1000000.f_at]?.getD 0)]))), (decide ((List.length ([] : List (UInt8)) + List.length ([((b1000000.f_s)[Int.toNat b1000000.f_at]?.getD 0)] : List (UInt8))) * (1 + 1) ≤ limit)) = true, (AppOb 0 e8 ([] : List (UInt8)) (List.flatMap e8 ([((b1000000.f_s)[Int.toNat b1000000.f_at]?.getD 0)] : List (UInt8))) (List.length ([((b1000000.f_s)[Int.toNat b1000000.f_at]?.getD 0)] : List (UInt8))) (.recs (α := UInt8) 0 e8 (([] : List (UInt8)) ++ ([((b1000000.f_s)[Int.toNat b1000000.f_at]?.getD 0)] : List (UInt8)))) ∧ GoodR (.recs (α := UInt8) 0 e8 (([] : List (UInt8)) ++ ([((b1000000.f_s)[Int.toNat b1000000.f_at]?.getD 0)] : List (UInt8)))))]) (by kernel_rfl) (AllP.cons (mkOb (All8.cells (ns := [(((b1000000.f_s)[Int.toNat b1000000.f_at]?.getD 0).toNat : Int)]) (.cons rfl .nil)) rfl rfl (good8 _)) (AllP.cons hc3 (AllP.cons (appOb rfl rfl (good8 _)) AllP.nil))) ?_
          refine To.thenN ?_
          refine Wp.goto ?_
          refine To.thenG ?_
          refine To.keep (kk := [0, 1, 5, 6, 7]) (kl := [5, 6, 67, 4300, 1000000]) (K' := [(0, .own 1000000 0), (1, .val (.int .i64 v1)), (5, .own 5 0), (6, .own 6 0), (7, .fn 25 [.own 6 0, .own 5 0])]) (L' := [(5, 23, [.row 4300]), (6, 46, [.row 67]), (67, 5, [.rowc false (α := UInt8) 0 e8 (([] : List (UInt8)) ++ ([((b1000000.f_s)[Int.toNat b1000000.f_at]?.getD 0)] : List (UInt8)))]), (4300, 32, [.rowc false (α := S_tmpl_Part) (S_tmpl_Part.mk [] [] 0 []) E_tmpl_Part []]), (1000000, 43, [.str b1000000.f_s, .val (.int .i64 (IntKind.wrap .i64 (b1000000.f_at + 1))), .val (.int .i64 b1000000.f_e)])]) (by kernel_rfl) (by kernel_rfl) ?_
          refine To.pre (St.rename 67 4360 (by decide) (K' := [(0, .own 1000000 0), (1, .val (.int .i64 v1)), (5, .own 5 0), (6, .own 6 0), (7, .fn 25 [.own 6 0, .own 5 0])]) (L' := [(5, 23, [.row 4300]), (6, 46, [.row 4360]), (4360, 5, [.rowc false (α := UInt8) 0 e8 (([] : List (UInt8)) ++ ([((b1000000.f_s)[Int.toNat b1000000.f_at]?.getD 0)] : List (UInt8)))]), (4300, 32, [.rowc false (α := S_tmpl_Part) (S_tmpl_Part.mk [] [] 0 []) E_tmpl_Part []]), (1000000, 43, [.str b1000000.f_s, .val (.int .i64 (IntKind.wrap .i64 (b1000000.f_at + 1))), .val (.int .i64 b1000000.f_e)])]) (by kernel_rfl) (by kernel_rfl) (by kernel_rfl)) ?_
          refine To.keep (kk := [0, 1, 5, 6, 7]) (kl := [5, 6, 4300, 4360, 1000000]) (K' := [(0, .own 1000000 0), (1, .val (.int .i64 v1)), (5, .own 5 0), (6, .own 6 0), (7, .fn 25 [.own 6 0, .own 5 0])]) (L' := [(5, 23, [.row 4300]), (6, 46, [.row 4360]), (4300, 32, [.rowc false (α := S_tmpl_Part) (S_tmpl_Part.mk [] [] 0 []) E_tmpl_Part []]), (4360, 5, [.rowc false (α := UInt8) 0 e8 (([] : List (UInt8)) ++ ([((b1000000.f_s)[Int.toNat b1000000.f_at]?.getD 0)] : List (UInt8)))]), (1000000, 43, [.str b1000000.f_s, .val (.int .i64 (IntKind.wrap .i64 (b1000000.f_at + 1))), .val (.int .i64 b1000000.f_e)])]) (by kernel_rfl) (by kernel_rfl) ?_
          refine To.goto (rest := cG 0 (cB (cF Tryd.f16))) (by kernel_rfl) ?_
          exact ih.2 v1 [] (([] : List (UInt8)) ++ ([((b1000000.f_s)[Int.toNat b1000000.f_at]?.getD 0)] : List (UInt8))) (S_tmpl_reader.mk b1000000.f_s (IntKind.wrap .i64 (b1000000.f_at + 1)) b1000000.f_e) _ h hQ
        · replace h := if_f hb h
          refine Wp.skip ?_
          refine To.thenN ?_
          refine Wp.seq ?_
          obtain ⟨o4, ho4, h⟩ := bind_of h
          refine Wp.keep (kk := [0, 1, 5, 6, 7, 8]) (kl := [5, 6, 4300, 4360, 1000000]) (K' := [(0, .own 1000000 0), (1, .val (.int .i64 v1)), (5, .own 5 0), (6, .own 6 0), (7, .fn 25 [.own 6 0, .own 5 0]), (8, .val (.int .u8 (((b1000000.f_s)[Int.toNat b1000000.f_at]?.getD 0).toNat : Int)))]) (L' := [(5, 23, [.row 4300]), (6, 46, [.row 4360]), (4300, 32, [.rowc false (α := S_tmpl_Part) (S_tmpl_Part.mk [] [] 0 []) E_tmpl_Part []]), (4360, 5, [.rowc false (α := UInt8) 0 e8 []]), (1000000, 43, [.str b1000000.f_s, .val (.int .i64 (IntKind.wrap .i64 (b1000000.f_at + 1))), .val (.int .i64 b1000000.f_e)])]) (by kernel_rfl) (by kernel_rfl) ?_
          refine ok_tmpl_reader_parts__o0_j2 R_tmpl_reader_parts__o0 hR_tmpl_reader_parts__o0 n v1 (((b1000000.f_s)[Int.toNat b1000000.f_at]?.getD 0).toNat : Int) [] [] (S_tmpl_reader.mk b1000000.f_s (IntKind.wrap .i64 (b1000000.f_at + 1)) b1000000.f_e) o4 ho4 ?_
          refine To.thenN ?_
          refine Wp.goto ?_
          refine To.keep (kk := [0, 1, 5, 6, 7]) (kl := [5, 6, 4300, 4360, 1000000]) (K' := [(0, .own 1000000 0), (1, .val (.int .i64 v1)), (5, .own 5 0), (6, .own 6 0), (7, .fn 25 [.own 6 0, .own 5 0])]) (L' := [(5, 23, [.row 4300]), (6, 46, [.row 4360]), (4300, 32, [.rowc false (α := S_tmpl_Part) (S_tmpl_Part.mk [] [] 0 []) E_tmpl_Part o4.1]), (4360, 5, [.rowc false (α := UInt8) 0 e8 o4.2.1]), (1000000, 43, [.str o4.2.2.f_s, .val (.int .i64 o4.2.2.f_at), .val (.int .i64 o4.2.2.f_e)])]) (by kernel_rfl) (by kernel_rfl) ?_
          refine To.goto (rest := cG 0 (cB (cF Tryd.f16))) (by kernel_rfl) ?_
          exact ih.2 v1 o4.1 o4.2.1 o4.2.2 _ h hQ
    · intro v1 b5 b6 b1000000 o h hQ
      rw [tmpl_reader_parts__o0_g1_0] at h
      refine WG.pass ?_
      refine Wp.seq ?_
      refine Wp.skip ?_
      refine To.thenN ?_
      refine Wp.seq ?_
      refine Wp.seq ?_
      obtain ⟨hc6, h⟩ := chk_of h
      obtain ⟨x1, hx1, h⟩ := lett_of h
      refine Wp.regionD hm hΓ [] [0, 1, 5, 6, 7, 42] [5, 6, 4300, 4360, 1000000] (K' := [(0, .own 1000000 0), (1, .val (.int .i64 v1)), (5, .own 5 0), (6, .own 6 0), (7, .fn 25 [.own 6 0, .own 5 0]), (42, .val (.bool (bif (bif (b1000000.f_e != 0) then true else (b1000000.f_at == (List.length b1000000.f_s : Int))) then true else (bif (decide (v1 > 1)) then ((((b1000000.f_s)[Int.toNat b1000000.f_at]?.getD 0).toNat : Int) == 125) else false))))]) (L' := [(5, 23, [.row 4300]), (6, 46, [.row 4360]), (4300, 32, [.rowc false (α := S_tmpl_Part) (S_tmpl_Part.mk [] [] 0 []) E_tmpl_Part b5]), (4360, 5, [.rowc false (α := UInt8) 0 e8 b6]), (1000000, 43, [.str b1000000.f_s, .val (.int .i64 b1000000.f_at), .val (.int .i64 b1000000.f_e)])]) (ob := [(!(((decide (v1 > 1)) == true) && ((bif (b1000000.f_e != 0) then true else (b1000000.f_at == (List.length b1000000.f_s : Int))) == false)) || decide (0 ≤ b1000000.f_at ∧ b1000000.f_at < (List.length b1000000.f_s : Int))) = true]) (by kernel_rfl) (AllP.cons hc6 AllP.nil) ?_
      refine To.eq (K' := [(0, .own 1000000 0), (1, .val (.int .i64 v1)), (5, .own 5 0), (6, .own 6 0), (7, .fn 25 [.own 6 0, .own 5 0]), (42, .val (.bool x1))]) (L' := [(5, 23, [.row 4300]), (6, 46, [.row 4360]), (4300, 32, [.rowc false (α := S_tmpl_Part) (S_tmpl_Part.mk [] [] 0 []) E_tmpl_Part b5]), (4360, 5, [.rowc false (α := UInt8) 0 e8 b6]), (1000000, 43, [.str b1000000.f_s, .val (.int .i64 b1000000.f_at), .val (.int .i64 b1000000.f_e)])]) (by cases hx1; rfl) (by cases hx1; rfl) ?_
      refine To.thenN ?_
      refine Wp.cond (b := x1) (by kernel_rfl) (fun hb => ?_) (fun hb => ?_)
      · replace h := if_t hb h
        refine Wp.seq ?_
        obtain ⟨r2, hr2, h⟩ := bind_of h
        refine Wp.region hΓ [] [] [(1, ⟨[(1000000, 6), (1000001, 5), (1010000, 4360), (1010100, 4300)], [(200, 4360), (300, 4300), (1000000, 6), (1000001, 5)], [.own 1000000 0, .own 1000001 0], [(1000000, 46, [.row 1010000]), (1000001, 23, [.row 1010100]), (1010000, 5, [.rowc false (α := UInt8) 0 e8 b6]), (1010100, 32, [.rowc false (α := S_tmpl_Part) (S_tmpl_Part.mk [] [] 0 []) E_tmpl_Part b5])], .tup [], [(200, 5, [.rowc false (α := UInt8) 0 e8 r2.1]), (300, 32, [.rowc false (α := S_tmpl_Part) (S_tmpl_Part.mk [] [] 0 []) E_tmpl_Part r2.2]), (1000000, 46, [.row 200]), (1000001, 23, [.row 300])]⟩)] [5] [5, 4300, 1000000] (K' := [(5, .own 5 0)]) (L' := [(5, 23, [.row 4300]), (4300, 32, [.rowc false (α := S_tmpl_Part) (S_tmpl_Part.mk [] [] 0 []) E_tmpl_Part r2.2]), (1000000, 43, [.str b1000000.f_s, .val (.int .i64 b1000000.f_at), .val (.int .i64 b1000000.f_e)])]) (ob := [CbOb (CallsB Tryd.prog) 25 [.own 6 0, .own 5 0] [some (46, [.row 4360]), some (23, [.row 4300]), some (5, [.rowc false (α := UInt8) 0 e8 b6]), some (32, [.rowc false (α := S_tmpl_Part) (S_tmpl_Part.mk [] [] 0 []) E_tmpl_Part b5])] ⟨[(1000000, 6), (1000001, 5), (1010000, 4360), (1010100, 4300)], [(200, 4360), (300, 4300), (1000000, 6), (1000001, 5)], [.own 1000000 0, .own 1000001 0], [(1000000, 46, [.row 1010000]), (1000001, 23, [.row 1010100]), (1010000, 5, [.rowc false (α := UInt8) 0 e8 b6]), (1010100, 32, [.rowc false (α := S_tmpl_Part) (S_tmpl_Part.mk [] [] 0 []) E_tmpl_Part b5])], .tup [], [(200, 5, [.rowc false (α := UInt8) 0 e8 r2.1]), (300, 32, [.rowc false (α := S_tmpl_Part) (S_tmpl_Part.mk [] [] 0 []) E_tmpl_Part r2.2]), (1000000, 46, [.row 200]), (1000001, 23, [.row 300])]⟩]) (by kernel_rfl) (AllP.cons (⟨(ok_tmpl_reader_parts_1__o0__o1 n b6 b5 _ hr2), by kernel_rfl, by kernel_rfl⟩) AllP.nil) ?_
        refine To.thenN ?_
        refine Wp.seq ?_
        refine Wp.region hΓ [] [] [] [4] [4300, 1000000] (K' := [(4, .row 4300)]) (L' := [(4300, 32, [.rowc false (α := S_tmpl_Part) (S_tmpl_Part.mk [] [] 0 []) E_tmpl_Part r2.2]), (1000000, 43, [.str b1000000.f_s, .val (.int .i64 b1000000.f_at), .val (.int .i64 b1000000.f_e)])]) (ob := []) (by kernel_rfl) AllP.nil ?_
        refine To.thenN ?_
        refine Wp.ret ?_
        refine To.thenR ?_
        refine To.goesO (.inr (.inl rfl)) ?_
        refine To.keep (kk := [4]) (kl := [4300, 1000000]) (K' := [(4, .row 4300)]) (L' := [(4300, 32, [.rowc false (α := S_tmpl_Part) (S_tmpl_Part.mk [] [] 0 []) E_tmpl_Part r2.2]), (1000000, 43, [.str b1000000.f_s, .val (.int .i64 b1000000.f_at), .val (.int .i64 b1000000.f_e)])]) (by kernel_rfl) (by kernel_rfl) ?_
        refine To.pre (St.rename 4300 1004 (by decide) (K' := [(4, .row 1004)]) (L' := [(1004, 32, [.rowc false (α := S_tmpl_Part) (S_tmpl_Part.mk [] [] 0 []) E_tmpl_Part r2.2]), (1000000, 43, [.str b1000000.f_s, .val (.int .i64 b1000000.f_at), .val (.int .i64 b1000000.f_e)])]) (by kernel_rfl) (by kernel_rfl) (by kernel_rfl)) ?_
        refine To.keep (kk := [4]) (kl := [1004, 1000000]) (K' := [(4, .row 1004)]) (L' := [(1004, 32, [.rowc false (α := S_tmpl_Part) (S_tmpl_Part.mk [] [] 0 []) E_tmpl_Part r2.2]), (1000000, 43, [.str b1000000.f_s, .val (.int .i64 b1000000.f_at), .val (.int .i64 b1000000.f_e)])]) (by kernel_rfl) (by kernel_rfl) ?_
        cases h
        exact hQ
      · replace h := if_f hb h
        refine Wp.skip ?_
        refine To.thenN ?_
        refine Wp.seq ?_
        obtain ⟨hc5, h⟩ := chk_of h
        refine Wp.regionD hm hΓ [] [0, 1, 5, 6, 7, 8] [5, 6, 4300, 4360, 1000000] (K' := [(0, .own 1000000 0), (1, .val (.int .i64 v1)), (5, .own 5 0), (6, .own 6 0), (7, .fn 25 [.own 6 0, .own 5 0]), (8, .val (.int .u8 (((b1000000.f_s)[Int.toNat b1000000.f_at]?.getD 0).toNat : Int)))]) (L' := [(5, 23, [.row 4300]), (6, 46, [.row 4360]), (4300, 32, [.rowc false (α := S_tmpl_Part) (S_tmpl_Part.mk [] [] 0 []) E_tmpl_Part b5]), (4360, 5, [.rowc false (α := UInt8) 0 e8 b6]), (1000000, 43, [.str b1000000.f_s, .val (.int .i64 b1000000.f_at), .val (.int .i64 b1000000.f_e)])]) (ob := [(decide (0 ≤ b1000000.f_at ∧ b1000000.f_at < (List.length b1000000.f_s : Int))) = true]) (by kernel_rfl) (AllP.cons hc5 AllP.nil) ?_
        refine To.thenN ?_
        refine Wp.seq ?_
        refine Wp.region hΓ [] [] [] [0, 1, 5, 6, 7, 8] [5, 6, 4300, 4360, 1000000] (K' := [(0, .own 1000000 0), (1, .val (.int .i64 v1)), (5, .own 5 0), (6, .own 6 0), (7, .fn 25 [.own 6 0, .own 5 0]), (8, .val (.int .u8 (((b1000000.f_s)[Int.toNat b1000000.f_at]?.getD 0).toNat : Int)))]) (L' := [(5, 23, [.row 4300]), (6, 46, [.row 4360]), (4300, 32, [.rowc false (α := S_tmpl_Part) (S_tmpl_Part.mk [] [] 0 []) E_tmpl_Part b5]), (4360, 5, [.rowc false (α := UInt8) 0 e8 b6]), (1000000, 43, [.str b1000000.f_s, .val (.int .i64 (IntKind.wrap .i64 (b1000000.f_at + 1))), .val (.int .i64 b1000000.f_e)])]) (ob := []) (by kernel_rfl) AllP.nil ?_
        refine To.thenN ?_
        refine Wp.seq ?_
        refine Wp.seq ?_
        refine Wp.region hΓ [] [] [] [0, 1, 5, 6, 7, 8, 63] [5, 6, 4300, 4360, 1000000] (K' := [(0, .own 1000000 0), (1, .val (.int .i64 v1)), (5, .own 5 0), (6, .own 6 0), (7, .fn 25 [.own 6 0, .own 5 0]), (8, .val (.int .u8 (((b1000000.f_s)[Int.toNat b1000000.f_at]?.getD 0).toNat : Int))), (63, .val (.bool ((((b1000000.f_s)[Int.toNat b1000000.f_at]?.getD 0).toNat : Int) != 36)))]) (L' := [(5, 23, [.row 4300]), (6, 46, [.row 4360]), (4300, 32, [.rowc false (α := S_tmpl_Part) (S_tmpl_Part.mk [] [] 0 []) E_tmpl_Part b5]), (4360, 5, [.rowc false (α := UInt8) 0 e8 b6]), (1000000, 43, [.str b1000000.f_s, .val (.int .i64 (IntKind.wrap .i64 (b1000000.f_at + 1))), .val (.int .i64 b1000000.f_e)])]) (ob := []) (by kernel_rfl) AllP.nil ?_
        refine To.thenN ?_
        refine Wp.cond (b := ((((b1000000.f_s)[Int.toNat b1000000.f_at]?.getD 0).toNat : Int) != 36)) (by kernel_rfl) (fun hb => ?_) (fun hb => ?_)
        · replace h := if_t hb h
          refine Wp.seq ?_
          obtain ⟨hc3, h⟩ := chk_of h
          refine Wp.region hΓ [] [(2, .recs (α := UInt8) 0 e8 ([((b1000000.f_s)[Int.toNat b1000000.f_at]?.getD 0)])), (3, .recs (α := UInt8) 0 e8 (b6 ++ ([((b1000000.f_s)[Int.toNat b1000000.f_at]?.getD 0)] : List (UInt8))))] [] [0, 1, 5, 6, 7] [5, 6, 67, 4300, 1000000] (K' := [(0, .own 1000000 0), (1, .val (.int .i64 v1)), (5, .own 5 0), (6, .own 6 0), (7, .fn 25 [.own 6 0, .own 5 0])]) (L' := [(5, 23, [.row 4300]), (6, 46, [.row 67]), (67, 5, [.rowc false (α := UInt8) 0 e8 (b6 ++ ([((b1000000.f_s)[Int.toNat b1000000.f_at]?.getD 0)] : List (UInt8)))]), (4300, 32, [.rowc false (α := S_tmpl_Part) (S_tmpl_Part.mk [] [] 0 []) E_tmpl_Part b5]), (1000000, 43, [.str b1000000.f_s, .val (.int .i64 (IntKind.wrap .i64 (b1000000.f_at + 1))), .val (.int .i64 b1000000.f_e)])]) (ob := [(MkOb 1 [.val (.int .u8 (((b1000000.f_s)[Int.toNat b1000000.f_at]?.getD 0).toNat : Int))] 1 (.recs (α := UInt8) 0 e8 ([((b1000000.f_s)[Int.toNat b1000000.f_at]?.getD 0)])) ∧ GoodR (.recs (α := UInt8) 0 e8 ([((b1000000.f_s)[Int.toNat b1000000.f_at]?.getD 0)]))), (decide ((List.length b6 + List.length ([((b1000000.f_s)[Int.toNat b1000000.f_at]?.getD 0)] : List (UInt8))) * (1 + 1) ≤ limit)) = true, (AppOb 0 e8 b6 (List.flatMap e8 ([((b1000000.f_s)[Int.toNat b1000000.f_at]?.getD 0)] : List (UInt8))) (List.length ([((b1000000.f_s)[Int.toNat b1000000.f_at]?.getD 0)] : List (UInt8))) (.recs (α := UInt8) 0 e8 (b6 ++ ([((b1000000.f_s)[Int.toNat b1000000.f_at]?.getD 0)] : List (UInt8)))) ∧ GoodR (.recs (α := UInt8) 0 e8 (b6 ++ ([((b1000000.f_s)[Int.toNat b1000000.f_at]?.getD 0)] : List (UInt8)))))]) (by kernel_rfl) (AllP.cons (mkOb (All8.cells (ns := [(((b1000000.f_s)[Int.toNat b1000000.f_at]?.getD 0).toNat : Int)]) (.cons rfl .nil)) rfl rfl (good8 _)) (AllP.cons hc3 (AllP.cons (appOb rfl rfl (good8 _)) AllP.nil))) ?_
          refine To.thenN ?_
          refine Wp.goto ?_
          refine To.thenG ?_
          refine To.keep (kk := [0, 1, 5, 6, 7]) (kl := [5, 6, 67, 4300, 1000000]) (K' := [(0, .own 1000000 0), (1, .val (.int .i64 v1)), (5, .own 5 0), (6, .own 6 0), (7, .fn 25 [.own 6 0, .own 5 0])]) (L' := [(5, 23, [.row 4300]), (6, 46, [.row 67]), (67, 5, [.rowc false (α := UInt8) 0 e8 (b6 ++ ([((b1000000.f_s)[Int.toNat b1000000.f_at]?.getD 0)] : List (UInt8)))]), (4300, 32, [.rowc false (α := S_tmpl_Part) (S_tmpl_Part.mk [] [] 0 []) E_tmpl_Part b5]), (1000000, 43, [.str b1000000.f_s, .val (.int .i64 (IntKind.wrap .i64 (b1000000.f_at + 1))), .val (.int .i64 b1000000.f_e)])]) (by kernel_rfl) (by kernel_rfl) ?_
          refine To.pre (St.rename 67 4360 (by decide) (K' := [(0, .own 1000000 0), (1, .val (.int .i64 v1)), (5, .own 5 0), (6, .own 6 0), (7, .fn 25 [.own 6 0, .own 5 0])]) (L' := [(5, 23, [.row 4300]), (6, 46, [.row 4360]), (4360, 5, [.rowc false (α := UInt8) 0 e8 (b6 ++ ([((b1000000.f_s)[Int.toNat b1000000.f_at]?.getD 0)] : List (UInt8)))]), (4300, 32, [.rowc false (α := S_tmpl_Part) (S_tmpl_Part.mk [] [] 0 []) E_tmpl_Part b5]), (1000000, 43, [.str b1000000.f_s, .val (.int .i64 (IntKind.wrap .i64 (b1000000.f_at + 1))), .val (.int .i64 b1000000.f_e)])]) (by kernel_rfl) (by kernel_rfl) (by kernel_rfl)) ?_
          refine To.keep (kk := [0, 1, 5, 6, 7]) (kl := [5, 6, 4300, 4360, 1000000]) (K' := [(0, .own 1000000 0), (1, .val (.int .i64 v1)), (5, .own 5 0), (6, .own 6 0), (7, .fn 25 [.own 6 0, .own 5 0])]) (L' := [(5, 23, [.row 4300]), (6, 46, [.row 4360]), (4300, 32, [.rowc false (α := S_tmpl_Part) (S_tmpl_Part.mk [] [] 0 []) E_tmpl_Part b5]), (4360, 5, [.rowc false (α := UInt8) 0 e8 (b6 ++ ([((b1000000.f_s)[Int.toNat b1000000.f_at]?.getD 0)] : List (UInt8)))]), (1000000, 43, [.str b1000000.f_s, .val (.int .i64 (IntKind.wrap .i64 (b1000000.f_at + 1))), .val (.int .i64 b1000000.f_e)])]) (by kernel_rfl) (by kernel_rfl) ?_
          refine To.goto (rest := cG 0 (cB (cF Tryd.f16))) (by kernel_rfl) ?_
          exact ih.2 v1 b5 (b6 ++ ([((b1000000.f_s)[Int.toNat b1000000.f_at]?.getD 0)] : List (UInt8))) (S_tmpl_reader.mk b1000000.f_s (IntKind.wrap .i64 (b1000000.f_at + 1)) b1000000.f_e) _ h hQ
        · replace h := if_f hb h
          refine Wp.skip ?_
          refine To.thenN ?_
          refine Wp.seq ?_
          obtain ⟨o4, ho4, h⟩ := bind_of h
          refine Wp.keep (kk := [0, 1, 5, 6, 7, 8]) (kl := [5, 6, 4300, 4360, 1000000]) (K' := [(0, .own 1000000 0), (1, .val (.int .i64 v1)), (5, .own 5 0), (6, .own 6 0), (7, .fn 25 [.own 6 0, .own 5 0]), (8, .val (.int .u8 (((b1000000.f_s)[Int.toNat b1000000.f_at]?.getD 0).toNat : Int)))]) (L' := [(5, 23, [.row 4300]), (6, 46, [.row 4360]), (4300, 32, [.rowc false (α := S_tmpl_Part) (S_tmpl_Part.mk [] [] 0 []) E_tmpl_Part b5]), (4360, 5, [.rowc false (α := UInt8) 0 e8 b6]), (1000000, 43, [.str b1000000.f_s, .val (.int .i64 (IntKind.wrap .i64 (b1000000.f_at + 1))), .val (.int .i64 b1000000.f_e)])]) (by kernel_rfl) (by kernel_rfl) ?_
          refine ok_tmpl_reader_parts__o0_j3 R_tmpl_reader_parts__o0 hR_tmpl_reader_parts__o0 n v1 (((b1000000.f_s)[Int.toNat b1000000.f_at]?.getD 0).toNat : Int) b5 b6 (S_tmpl_reader.mk b1000000.f_s (IntKind.wrap .i64 (b1000000.f_at + 1)) b1000000.f_e) o4 ho4 ?_
          refine To.thenN ?_
          refine Wp.goto ?_
          refine To.keep (kk := [0, 1, 5, 6, 7]) (kl := [5, 6, 4300, 4360, 1000000]) (K' := [(0, .own 1000000 0), (1, .val (.int .i64 v1)), (5, .own 5 0), (6, .own 6 0), (7, .fn 25 [.own 6 0, .own 5 0])]) (L' := [(5, 23, [.row 4300]), (6, 46, [.row 4360]), (4300, 32, [.rowc false (α := S_tmpl_Part) (S_tmpl_Part.mk [] [] 0 []) E_tmpl_Part o4.1]), (4360, 5, [.rowc false (α := UInt8) 0 e8 o4.2.1]), (1000000, 43, [.str o4.2.2.f_s, .val (.int .i64 o4.2.2.f_at), .val (.int .i64 o4.2.2.f_e)])]) (by kernel_rfl) (by kernel_rfl) ?_
          refine To.goto (rest := cG 0 (cB (cF Tryd.f16))) (by kernel_rfl) ?_
          exact ih.2 v1 o4.1 o4.2.1 o4.2.2 _ h hQ
def tmpl_reader_parts__o0_b (R_tmpl_reader_parts__o0 : Int → S_tmpl_reader → Option ((List (S_tmpl_Part)) × S_tmpl_reader)) (n : Nat) (a1 : Int) (h0 : S_tmpl_reader) : Option ((List (S_tmpl_Part)) × S_tmpl_reader) :=
  (tmpl_reader_parts__o0_g1_e R_tmpl_reader_parts__o0 n n a1 h0).bind fun o1 =>
  some (o1.1, o1.2)
theorem ok_tmpl_reader_parts__o0_b (R_tmpl_reader_parts__o0 : Int → S_tmpl_reader → Option ((List (S_tmpl_Part)) × S_tmpl_reader)) (hR_tmpl_reader_parts__o0 : ∀ (a1 : Int) (h0 : S_tmpl_reader) (r : (List (S_tmpl_Part)) × S_tmpl_reader), R_tmpl_reader_parts__o0 a1 h0 = some r → CallsB Tryd.prog 16 [.own 1000000 0, .val (.int .i64 a1)] [(1000000, 43, [.str h0.f_s, .val (.int .i64 h0.f_at), .val (.int .i64 h0.f_e)])] (.recs (α := S_tmpl_Part) (S_tmpl_Part.mk [] [] 0 []) E_tmpl_Part r.1) [(1000000, 43, [.str r.2.f_s, .val (.int .i64 r.2.f_at), .val (.int .i64 r.2.f_e)])]) (n : Nat) (a1 : Int) (h0 : S_tmpl_reader) (r : (List (S_tmpl_Part)) × S_tmpl_reader) (h : tmpl_reader_parts__o0_b R_tmpl_reader_parts__o0 n a1 h0 = some r) : CallsB Tryd.prog 16 [.own 1000000 0, .val (.int .i64 a1)] [(1000000, 43, [.str h0.f_s, .val (.int .i64 h0.f_at), .val (.int .i64 h0.f_e)])] (.recs (α := S_tmpl_Part) (S_tmpl_Part.mk [] [] 0 []) E_tmpl_Part r.1) [(1000000, 43, [.str r.2.f_s, .val (.int .i64 r.2.f_at), .val (.int .i64 r.2.f_e)])] := by
  unfold tmpl_reader_parts__o0_b at h
  refine callsB_of (fn := Tryd.f16) (by kernel_rfl) rfl (by kernel_rfl) (Nat.le_of_ble_eq_true (by kernel_rfl)) fun F0 w0 => ?_
  refine Wp.keep (kk := [0, 1]) (kl := [1000000]) (K' := [(0, .own 1000000 0), (1, .val (.int .i64 a1))]) (L' := [(1000000, 43, [.str h0.f_s, .val (.int .i64 h0.f_at), .val (.int .i64 h0.f_e)])]) (by kernel_rfl) (by kernel_rfl) ?_
  refine Wp.seq ?_
  refine Wp.region hΓ [] [] [] [0, 1] [1000000] (K' := [(0, .own 1000000 0), (1, .val (.int .i64 a1))]) (L' := [(1000000, 43, [.str h0.f_s, .val (.int .i64 h0.f_at), .val (.int .i64 h0.f_e)])]) (ob := []) (by kernel_rfl) AllP.nil ?_
  refine To.thenN ?_
  obtain ⟨o1, ho1, h⟩ := bind_of h
  refine Wp.keep (kk := [0, 1]) (kl := [1000000]) (K' := [(0, .own 1000000 0), (1, .val (.int .i64 a1))]) (L' := [(1000000, 43, [.str h0.f_s, .val (.int .i64 h0.f_at), .val (.int .i64 h0.f_e)])]) (by kernel_rfl) (by kernel_rfl) ?_
  refine Wp.scopeG ?_
  refine (ok_tmpl_reader_parts__o0_g1 R_tmpl_reader_parts__o0 hR_tmpl_reader_parts__o0 n n).1 a1 h0 o1 ho1 ?_
  refine To.keep (kk := [4]) (kl := [1004, 1000000]) (K' := [(4, .row 1004)]) (L' := [(1004, 32, [.rowc false (α := S_tmpl_Part) (S_tmpl_Part.mk [] [] 0 []) E_tmpl_Part o1.1]), (1000000, 43, [.str o1.2.f_s, .val (.int .i64 o1.2.f_at), .val (.int .i64 o1.2.f_e)])]) (by kernel_rfl) (by kernel_rfl) ?_
  refine To.pre (St.settle (ks := [1004]) (kk := [4]) (kl := [1004, 1000000]) (K' := [(4, .row 1004)]) (L' := [(1004, 32, [.rowc true (α := S_tmpl_Part) (S_tmpl_Part.mk [] [] 0 []) E_tmpl_Part o1.1]), (1000000, 43, [.str o1.2.f_s, .val (.int .i64 o1.2.f_at), .val (.int .i64 o1.2.f_e)])]) (by kernel_rfl)) ?_
  refine To.pre (St.sealK [4] (K' := [(4, .recs (α := S_tmpl_Part) (S_tmpl_Part.mk [] [] 0 []) E_tmpl_Part o1.1)]) (by kernel_rfl)) ?_
  refine To.keep (kk := [4]) (kl := [1000000]) (K' := [(4, .recs (α := S_tmpl_Part) (S_tmpl_Part.mk [] [] 0 []) E_tmpl_Part o1.1)]) (L' := [(1000000, 43, [.str o1.2.f_s, .val (.int .i64 o1.2.f_at), .val (.int .i64 o1.2.f_e)])]) (by kernel_rfl) (by kernel_rfl) ?_
  cases h
  exact To.doneB hΓ [1000000] (by kernel_rfl) (by kernel_rfl)
def tmpl_reader_parts__o0 : Nat → Int → S_tmpl_reader → Option ((List (S_tmpl_Part)) × S_tmpl_reader)
  | 0 => fun _ _ => none
  | n + 1 => tmpl_reader_parts__o0_b (tmpl_reader_parts__o0 n) n
theorem ok_tmpl_reader_parts__o0 (n : Nat) : ∀ (a1 : Int) (h0 : S_tmpl_reader) (r : (List (S_tmpl_Part)) × S_tmpl_reader), tmpl_reader_parts__o0 n a1 h0 = some r → CallsB Tryd.prog 16 [.own 1000000 0, .val (.int .i64 a1)] [(1000000, 43, [.str h0.f_s, .val (.int .i64 h0.f_at), .val (.int .i64 h0.f_e)])] (.recs (α := S_tmpl_Part) (S_tmpl_Part.mk [] [] 0 []) E_tmpl_Part r.1) [(1000000, 43, [.str r.2.f_s, .val (.int .i64 r.2.f_at), .val (.int .i64 r.2.f_e)])] := by
  induction n with
  | zero => intro a1 h0 r h; cases h
  | succ n ih => exact fun a1 h0 r h => ok_tmpl_reader_parts__o0_b (tmpl_reader_parts__o0 n) ih n a1 h0 r h
def tmpl_Parse (n : Nat) (a0 : List UInt8) : Option ((List (S_tmpl_Part)) × Int) :=
  (tmpl_reader_parts__o0 n 1 (S_tmpl_reader.mk a0 0 0)).bind fun r1 =>
  if (r1.2.f_e != 0) = true then (some ([], r1.2.f_e))
  else (some (r1.1, 0))
theorem ok_tmpl_Parse (n : Nat) (a0 : List UInt8) (r : (List (S_tmpl_Part)) × Int) (h : tmpl_Parse n a0 = some r) : CallsX Tryd.prog 6 [.str a0] (.tup [.recs (α := S_tmpl_Part) (S_tmpl_Part.mk [] [] 0 []) E_tmpl_Part r.1, .val (.int .i64 r.2)]) := by
  unfold tmpl_Parse at h
  refine callsX_of (fn := Tryd.f6) (by kernel_rfl) rfl (by kernel_rfl) (Nat.le_of_ble_eq_true (by kernel_rfl)) fun F0 w0 _ => ?_
  refine Wp.keep (kk := [0]) (kl := []) (K' := [(0, .str a0)]) (L' := []) (by kernel_rfl) (by kernel_rfl) ?_
  refine Wp.seq ?_
  refine Wp.region hΓ [] [] [] [0] [] (K' := [(0, .str a0)]) (L' := []) (ob := []) (by kernel_rfl) AllP.nil ?_
  refine To.thenN ?_
  refine Wp.seq ?_
  refine Wp.region hΓ [] [] [] [4] [4] (K' := [(4, .own 4 0)]) (L' := [(4, 43, [.str a0, .val (.int .i64 0), .val (.int .i64 0)])]) (ob := []) (by kernel_rfl) AllP.nil ?_
  refine To.thenN ?_
  refine Wp.seq ?_
  obtain ⟨r1, hr1, h⟩ := bind_of h
  refine Wp.region hΓ [] [] [(0, ⟨[(1000000, 4)], [(1000000, 4)], [.own 1000000 0, .val (.int .i64 1)], [(1000000, 43, [.str a0, .val (.int .i64 0), .val (.int .i64 0)])], .recs (α := S_tmpl_Part) (S_tmpl_Part.mk [] [] 0 []) E_tmpl_Part r1.1, [(1000000, 43, [.str r1.2.f_s, .val (.int .i64 r1.2.f_at), .val (.int .i64 r1.2.f_e)])]⟩)] [4, 5] [4] (K' := [(4, .own 4 0), (5, .recs (α := S_tmpl_Part) (S_tmpl_Part.mk [] [] 0 []) E_tmpl_Part r1.1)]) (L' := [(4, 43, [.str r1.2.f_s, .val (.int .i64 r1.2.f_at), .val (.int .i64 r1.2.f_e)])]) (ob := [CbOb (CallsB Tryd.prog) 16 [.own 4 0, .val (.int .i64 1)] [some (43, [.str a0, .val (.int .i64 0), .val (.int .i64 0)])] ⟨[(1000000, 4)], [(1000000, 4)], [.own 1000000 0, .val (.int .i64 1)], [(1000000, 43, [.str a0, .val (.int .i64 0), .val (.int .i64 0)])], .recs (α := S_tmpl_Part) (S_tmpl_Part.mk [] [] 0 []) E_tmpl_Part r1.1, [(1000000, 43, [.str r1.2.f_s, .val (.int .i64 r1.2.f_at), .val (.int .i64 r1.2.f_e)])]⟩]) (by kernel_rfl) (AllP.cons (⟨(ok_tmpl_reader_parts__o0 n 1 (S_tmpl_reader.mk a0 0 0) _ hr1), by kernel_rfl, by kernel_rfl⟩) AllP.nil) ?_
  refine To.thenN ?_
  refine Wp.seq ?_
  refine Wp.seq ?_
  refine Wp.region hΓ [] [] [] [4, 5, 11] [4] (K' := [(4, .own 4 0), (5, .recs (α := S_tmpl_Part) (S_tmpl_Part.mk [] [] 0 []) E_tmpl_Part r1.1), (11, .val (.bool (r1.2.f_e != 0)))]) (L' := [(4, 43, [.str r1.2.f_s, .val (.int .i64 r1.2.f_at), .val (.int .i64 r1.2.f_e)])]) (ob := []) (by kernel_rfl) AllP.nil ?_
  refine To.thenN ?_
  refine Wp.cond (b := (r1.2.f_e != 0)) (by kernel_rfl) (fun hb => ?_) (fun hb => ?_)
  · replace h := if_t hb h
    refine Wp.seq ?_
    refine Wp.regionD hm hΓ [] [2, 3] [] (K' := [(2, .val (.slice none 0 0)), (3, .val (.int .i64 r1.2.f_e))]) (L' := []) (ob := []) (by kernel_rfl) AllP.nil ?_
    refine To.thenN ?_
    refine Wp.ret ?_
    refine To.thenR ?_
    refine To.keep (kk := [2, 3]) (kl := []) (K' := [(2, .val (.slice none 0 0)), (3, .val (.int .i64 r1.2.f_e))]) (L' := []) (by kernel_rfl) (by kernel_rfl) ?_
    refine To.weak (K' := [(2, .recs (α := S_tmpl_Part) (S_tmpl_Part.mk [] [] 0 []) E_tmpl_Part []), (3, .val (.int .i64 r1.2.f_e))]) (L' := []) (.cons (.zero _ _) (.cons (.refl _) .nil)) .nil ?_
    cases h
    exact To.done hΓ (by kernel_rfl)
  · replace h := if_f hb h
    refine Wp.skip ?_
    refine To.thenN ?_
    refine Wp.seq ?_
    refine Wp.region hΓ [] [] [] [2, 3] [] (K' := [(2, .recs (α := S_tmpl_Part) (S_tmpl_Part.mk [] [] 0 []) E_tmpl_Part r1.1), (3, .val (.int .i64 0))]) (L' := []) (ob := []) (by kernel_rfl) AllP.nil ?_
    refine To.thenN ?_
    refine Wp.ret ?_
    refine To.keep (kk := [2, 3]) (kl := []) (K' := [(2, .recs (α := S_tmpl_Part) (S_tmpl_Part.mk [] [] 0 []) E_tmpl_Part r1.1), (3, .val (.int .i64 0))]) (L' := []) (by kernel_rfl) (by kernel_rfl) ?_
    cases h
    exact To.done hΓ (by kernel_rfl)
def law13_awake (n : Nat) : Option (Bool) :=
  (tmpl_Parse n [97, 36, 123, 66, 58, 45, 99, 36, 68, 125, 36, 36]).bind fun r1 =>
  (tmpl_Parse n [36, 49]).bind fun r2 =>
  if ((!((bif (r1.2 == 0) then ((List.length r1.1 : Int) == 3) else false) == true) || decide (0 ≤ (1 : Int) ∧ (1 : Int) < (List.length r1.1 : Int)))) = true then (if ((!((bif (bif (r1.2 == 0) then ((List.length r1.1 : Int) == 3) else false) then ((((r1.1)[Int.toNat 1]?.getD (S_tmpl_Part.mk [] [] 0 [])).f_Name) == [66]) else false) == true) || decide (0 ≤ (1 : Int) ∧ (1 : Int) < (List.length r1.1 : Int)))) = true then (if ((!((bif (bif (bif (r1.2 == 0) then ((List.length r1.1 : Int) == 3) else false) then ((((r1.1)[Int.toNat 1]?.getD (S_tmpl_Part.mk [] [] 0 [])).f_Name) == [66]) else false) then ((((r1.1)[Int.toNat 1]?.getD (S_tmpl_Part.mk [] [] 0 [])).f_Op) == 2) else false) == true) || decide (0 ≤ (1 : Int) ∧ (1 : Int) < (List.length r1.1 : Int)))) = true then (if ((!((bif (bif (bif (bif (r1.2 == 0) then ((List.length r1.1 : Int) == 3) else false) then ((((r1.1)[Int.toNat 1]?.getD (S_tmpl_Part.mk [] [] 0 [])).f_Name) == [66]) else false) then ((((r1.1)[Int.toNat 1]?.getD (S_tmpl_Part.mk [] [] 0 [])).f_Op) == 2) else false) then ((List.length (((r1.1)[Int.toNat 1]?.getD (S_tmpl_Part.mk [] [] 0 [])).f_Sub) : Int) == 2) else false) == true) || decide (0 ≤ (2 : Int) ∧ (2 : Int) < (List.length r1.1 : Int)))) = true then (lett ((bif (bif (bif (bif (bif (bif (r1.2 == 0) then ((List.length r1.1 : Int) == 3) else false) then ((((r1.1)[Int.toNat 1]?.getD (S_tmpl_Part.mk [] [] 0 [])).f_Name) == [66]) else false) then ((((r1.1)[Int.toNat 1]?.getD (S_tmpl_Part.mk [] [] 0 [])).f_Op) == 2) else false) then ((List.length (((r1.1)[Int.toNat 1]?.getD (S_tmpl_Part.mk [] [] 0 [])).f_Sub) : Int) == 2) else false) then ((((r1.1)[Int.toNat 2]?.getD (S_tmpl_Part.mk [] [] 0 [])).f_Text) == [36]) else false) then (r2.2 == 3) else false) : Bool) fun x3 =>
  some x3) else none) else none) else none) else none
theorem ok_law13_awake (n : Nat) (r : Bool) (h : law13_awake n = some r) : CallsX Tryd.prog 5 [] (.val (.bool r)) := by
  unfold law13_awake at h
  refine callsX_of (fn := Tryd.f5) (by kernel_rfl) rfl (by kernel_rfl) (Nat.le_of_ble_eq_true (by kernel_rfl)) fun F0 w0 _ => ?_
  refine Wp.keep (kk := []) (kl := []) (K' := []) (L' := []) (by kernel_rfl) (by kernel_rfl) ?_
  refine Wp.seq ?_
  refine Wp.region hΓ [] [] [] [] [] (K' := []) (L' := []) (ob := []) (by kernel_rfl) AllP.nil ?_
  refine To.thenN ?_
  refine Wp.seq ?_
  obtain ⟨r1, hr1, h⟩ := bind_of h
  refine Wp.region hΓ [] [(0, .tup [.recs (α := S_tmpl_Part) (S_tmpl_Part.mk [] [] 0 []) E_tmpl_Part r1.1, .val (.int .i64 r1.2)])] [] [1, 2] [] (K' := [(1, .recs (α := S_tmpl_Part) (S_tmpl_Part.mk [] [] 0 []) E_tmpl_Part r1.1), (2, .val (.int .i64 r1.2))]) (L' := []) (ob := [(true = true → CX Tryd.prog 6 [.str [97, 36, 123, 66, 58, 45, 99, 36, 68, 125, 36, 36]] (.tup [.recs (α := S_tmpl_Part) (S_tmpl_Part.mk [] [] 0 []) E_tmpl_Part r1.1, .val (.int .i64 r1.2)]))]) (by kernel_rfl) (AllP.cons (fun _ => cx (ok_tmpl_Parse n [97, 36, 123, 66, 58, 45, 99, 36, 68, 125, 36, 36] _ hr1)) AllP.nil) ?_
  refine To.thenN ?_
  refine Wp.seq ?_
  obtain ⟨r2, hr2, h⟩ := bind_of h
  refine Wp.region hΓ [] [(0, .tup [.recs (α := S_tmpl_Part) (S_tmpl_Part.mk [] [] 0 []) E_tmpl_Part r2.1, .val (.int .i64 r2.2)])] [] [1, 2, 4] [] (K' := [(1, .recs (α := S_tmpl_Part) (S_tmpl_Part.mk [] [] 0 []) E_tmpl_Part r1.1), (2, .val (.int .i64 r1.2)), (4, .val (.int .i64 r2.2))]) (L' := []) (ob := [(true = true → CX Tryd.prog 6 [.str [36, 49]] (.tup [.recs (α := S_tmpl_Part) (S_tmpl_Part.mk [] [] 0 []) E_tmpl_Part r2.1, .val (.int .i64 r2.2)]))]) (by kernel_rfl) (AllP.cons (fun _ => cx (ok_tmpl_Parse n [36, 49] _ hr2)) AllP.nil) ?_
  refine To.thenN ?_
  refine Wp.seq ?_
  obtain ⟨hc4, h⟩ := chk_of h
  obtain ⟨hc5, h⟩ := chk_of h
  obtain ⟨hc6, h⟩ := chk_of h
  obtain ⟨hc7, h⟩ := chk_of h
  obtain ⟨x3, hx3, h⟩ := lett_of h
  refine Wp.region hΓ [] [] [] [0] [] (K' := [(0, .val (.bool (bif (bif (bif (bif (bif (bif (r1.2 == 0) then ((List.length r1.1 : Int) == 3) else false) then ((((r1.1)[Int.toNat 1]?.getD (S_tmpl_Part.mk [] [] 0 [])).f_Name) == [66]) else false) then ((((r1.1)[Int.toNat 1]?.getD (S_tmpl_Part.mk [] [] 0 [])).f_Op) == 2) else false) then ((List.length (((r1.1)[Int.toNat 1]?.getD (S_tmpl_Part.mk [] [] 0 [])).f_Sub) : Int) == 2) else false) then ((((r1.1)[Int.toNat 2]?.getD (S_tmpl_Part.mk [] [] 0 [])).f_Text) == [36]) else false) then (r2.2 == 3) else false)))]) (L' := []) (ob := [(!((bif (r1.2 == 0) then ((List.length r1.1 : Int) == 3) else false) == true) || decide (0 ≤ (1 : Int) ∧ (1 : Int) < (List.length r1.1 : Int))) = true, (!((bif (bif (r1.2 == 0) then ((List.length r1.1 : Int) == 3) else false) then ((((r1.1)[Int.toNat 1]?.getD (S_tmpl_Part.mk [] [] 0 [])).f_Name) == [66]) else false) == true) || decide (0 ≤ (1 : Int) ∧ (1 : Int) < (List.length r1.1 : Int))) = true, (!((bif (bif (bif (r1.2 == 0) then ((List.length r1.1 : Int) == 3) else false) then ((((r1.1)[Int.toNat 1]?.getD (S_tmpl_Part.mk [] [] 0 [])).f_Name) == [66]) else false) then ((((r1.1)[Int.toNat 1]?.getD (S_tmpl_Part.mk [] [] 0 [])).f_Op) == 2) else false) == true) || decide (0 ≤ (1 : Int) ∧ (1 : Int) < (List.length r1.1 : Int))) = true, (!((bif (bif (bif (bif (r1.2 == 0) then ((List.length r1.1 : Int) == 3) else false) then ((((r1.1)[Int.toNat 1]?.getD (S_tmpl_Part.mk [] [] 0 [])).f_Name) == [66]) else false) then ((((r1.1)[Int.toNat 1]?.getD (S_tmpl_Part.mk [] [] 0 [])).f_Op) == 2) else false) then ((List.length (((r1.1)[Int.toNat 1]?.getD (S_tmpl_Part.mk [] [] 0 [])).f_Sub) : Int) == 2) else false) == true) || decide (0 ≤ (2 : Int) ∧ (2 : Int) < (List.length r1.1 : Int))) = true]) (by kernel_rfl) (AllP.cons hc4 (AllP.cons hc5 (AllP.cons hc6 (AllP.cons hc7 AllP.nil)))) ?_
  refine To.eq (K' := [(0, .val (.bool x3))]) (L' := []) (by cases hx3; rfl) (by cases hx3; rfl) ?_
  refine To.thenN ?_
  refine Wp.ret ?_
  refine To.keep (kk := [0]) (kl := []) (K' := [(0, .val (.bool x3))]) (L' := []) (by kernel_rfl) (by kernel_rfl) ?_
  cases h
  exact To.done hΓ (by kernel_rfl)
structure S_ref13_Part where
  f_Name : List UInt8
  f_Text : List UInt8
  f_Op : Int
  f_Sub : List (S_ref13_Part)
def pre_S_ref13_Part : S_ref13_Part → List D := fun x => [.str x.f_Name, .str x.f_Text, .val (.int .i64 x.f_Op)]
def kids_S_ref13_Part : S_ref13_Part → List (S_ref13_Part) := fun x => x.f_Sub
def tr_S_ref13_Part : S_ref13_Part → List D := treeEnc (S_ref13_Part.mk [] [] 0 []) pre_S_ref13_Part kids_S_ref13_Part
def E_ref13_Part : S_ref13_Part → List D := tr_S_ref13_Part
theorem good_E_ref13_Part (l : List (S_ref13_Part)) : GoodR (.recs (S_ref13_Part.mk [] [] 0 []) E_ref13_Part l) := ⟨Nat.le_of_ble_eq_true (by kernel_rfl), fun _ => ⟨rfl, rfl⟩⟩
def law13_taken_l1 (R_law13_taken : (List (S_tmpl_Part)) → Option ((List (S_ref13_Part)))) (n : Nat) (v0 : List (S_tmpl_Part)) : Nat → (List (S_ref13_Part)) → Int → Option ((List (S_ref13_Part)))
  | 0, _, _ => none
  | k + 1, v3, v4 => if (decide (v4 < (List.length v0 : Int))) = true then (if (decide (0 ≤ v4 ∧ v4 < (List.length v0 : Int))) = true then ((R_law13_taken (((v0)[Int.toNat v4]?.getD (S_tmpl_Part.mk [] [] 0 [])).f_Sub)).bind fun r1 =>
  if (decide ((List.length v3 + List.length ([(S_ref13_Part.mk (((v0)[Int.toNat v4]?.getD (S_tmpl_Part.mk [] [] 0 [])).f_Name) (((v0)[Int.toNat v4]?.getD (S_tmpl_Part.mk [] [] 0 [])).f_Text) (((v0)[Int.toNat v4]?.getD (S_tmpl_Part.mk [] [] 0 [])).f_Op) r1)] : List (S_ref13_Part))) * (64 + 1) ≤ limit)) = true then (lett ((v3 ++ ([(S_ref13_Part.mk (((v0)[Int.toNat v4]?.getD (S_tmpl_Part.mk [] [] 0 [])).f_Name) (((v0)[Int.toNat v4]?.getD (S_tmpl_Part.mk [] [] 0 [])).f_Text) (((v0)[Int.toNat v4]?.getD (S_tmpl_Part.mk [] [] 0 [])).f_Op) r1)] : List (S_ref13_Part))) : List (S_ref13_Part)) fun x2 =>
  law13_taken_l1 R_law13_taken n v0 k x2 (IntKind.wrap .i64 (v4 + 1))) else none) else none)
  else some v3
theorem ok_law13_taken_l1 (R_law13_taken : (List (S_tmpl_Part)) → Option ((List (S_ref13_Part)))) (hR_law13_taken : ∀ (a0 : List (S_tmpl_Part)) (r : (List (S_ref13_Part))), R_law13_taken a0 = some r → CallsX Tryd.prog 9 [.recs (α := S_tmpl_Part) (S_tmpl_Part.mk [] [] 0 []) E_tmpl_Part a0] (.recs (α := S_ref13_Part) (S_ref13_Part.mk [] [] 0 []) E_ref13_Part r)) (n : Nat) (v0 : List (S_tmpl_Part)) {F0 : Fz} {w0 : Pt Tryd.prog} {Q : Exit → Act → World → Prop} (k : Nat) : ∀ (v3 : List (S_ref13_Part)) (v4 : Int) (o : (List (S_ref13_Part))), law13_taken_l1 R_law13_taken n v0 k v3 v4 = some o → To 38 F0 w0 [(3, .row 1003)] [(1003, 58, [.rowc false (α := S_ref13_Part) (S_ref13_Part.mk [] [] 0 []) E_ref13_Part o])] (.exit 0) Q → WL Tryd.prog 38 F0 w0 [(0, .recs (α := S_tmpl_Part) (S_tmpl_Part.mk [] [] 0 []) E_tmpl_Part v0), (3, .row 1003), (4, .val (.int .i64 v4))] [(1003, 58, [.rowc false (α := S_ref13_Part) (S_ref13_Part.mk [] [] 0 []) E_ref13_Part v3])] (cI (cI (cB (cA (cB (cB (cF Tryd.f9))))))) Q := by
  induction k with
  | zero => intro v3 v4 o h; cases h
  | succ k ih =>
    intro v3 v4 o h hQ
    rw [law13_taken_l1] at h
    refine WL.round ?_
    refine Wp.seq ?_
    refine Wp.seq ?_
    refine Wp.region hΓ [] [] [] [0, 3, 4, 9] [1003] (K' := [(0, .recs (α := S_tmpl_Part) (S_tmpl_Part.mk [] [] 0 []) E_tmpl_Part v0), (3, .row 1003), (4, .val (.int .i64 v4)), (9, .val (.bool (decide (v4 < (List.length v0 : Int)))))]) (L' := [(1003, 58, [.rowc false (α := S_ref13_Part) (S_ref13_Part.mk [] [] 0 []) E_ref13_Part v3])]) (ob := []) (by kernel_rfl) AllP.nil ?_
    refine To.thenN ?_
    refine Wp.cond (b := (decide (v4 < (List.length v0 : Int)))) (by kernel_rfl) (fun hb => ?_) (fun hb => ?_)
    · replace h := if_t hb h
      refine Wp.skip ?_
      refine To.thenN ?_
      refine Wp.seq ?_
      refine Wp.block ?_
      obtain ⟨hc3, h⟩ := chk_of h
      obtain ⟨r1, hr1, h⟩ := bind_of h
      obtain ⟨hc4, h⟩ := chk_of h
      obtain ⟨x2, hx2, h⟩ := lett_of h
      refine Wp.regionD hm hΓ [(21, .recs (α := S_ref13_Part) (S_ref13_Part.mk [] [] 0 []) E_ref13_Part r1), (23, .recs (α := S_ref13_Part) (S_ref13_Part.mk [] [] 0 []) E_ref13_Part ([(S_ref13_Part.mk (((v0)[Int.toNat v4]?.getD (S_tmpl_Part.mk [] [] 0 [])).f_Name) (((v0)[Int.toNat v4]?.getD (S_tmpl_Part.mk [] [] 0 [])).f_Text) (((v0)[Int.toNat v4]?.getD (S_tmpl_Part.mk [] [] 0 [])).f_Op) r1)])), (24, .row 36), (1024, .recs (α := S_ref13_Part) (S_ref13_Part.mk [] [] 0 []) E_ref13_Part (v3 ++ ([(S_ref13_Part.mk (((v0)[Int.toNat v4]?.getD (S_tmpl_Part.mk [] [] 0 [])).f_Name) (((v0)[Int.toNat v4]?.getD (S_tmpl_Part.mk [] [] 0 [])).f_Text) (((v0)[Int.toNat v4]?.getD (S_tmpl_Part.mk [] [] 0 [])).f_Op) r1)] : List (S_ref13_Part))))] [0, 3, 4] [36] (K' := [(0, .recs (α := S_tmpl_Part) (S_tmpl_Part.mk [] [] 0 []) E_tmpl_Part v0), (3, .row 36), (4, .val (.int .i64 v4))]) (L' := [(36, 58, [.rowc false (α := S_ref13_Part) (S_ref13_Part.mk [] [] 0 []) E_ref13_Part (v3 ++ ([(S_ref13_Part.mk (((v0)[Int.toNat v4]?.getD (S_tmpl_Part.mk [] [] 0 [])).f_Name) (((v0)[Int.toNat v4]?.getD (S_tmpl_Part.mk [] [] 0 [])).f_Text) (((v0)[Int.toNat v4]?.getD (S_tmpl_Part.mk [] [] 0 [])).f_Op) r1)] : List (S_ref13_Part)))])]) (ob := [(decide (0 ≤ v4 ∧ v4 < (List.length v0 : Int))) = true, (decide (0 ≤ v4 ∧ v4 < (List.length v0 : Int))) = true, (decide (0 ≤ v4 ∧ v4 < (List.length v0 : Int))) = true, (decide (0 ≤ v4 ∧ v4 < (List.length v0 : Int))) = true, (true = true → CX Tryd.prog 9 [.recs (α := S_tmpl_Part) (S_tmpl_Part.mk [] [] 0 []) E_tmpl_Part (((v0)[Int.toNat v4]?.getD (S_tmpl_Part.mk [] [] 0 [])).f_Sub)] (.recs (α := S_ref13_Part) (S_ref13_Part.mk [] [] 0 []) E_ref13_Part r1)), (true = true → MkOb 4 [.str (((v0)[Int.toNat v4]?.getD (S_tmpl_Part.mk [] [] 0 [])).f_Name), .str (((v0)[Int.toNat v4]?.getD (S_tmpl_Part.mk [] [] 0 [])).f_Text), .val (.int .i64 (((v0)[Int.toNat v4]?.getD (S_tmpl_Part.mk [] [] 0 [])).f_Op)), .recs (α := S_ref13_Part) (S_ref13_Part.mk [] [] 0 []) E_ref13_Part r1] 1 (.recs (α := S_ref13_Part) (S_ref13_Part.mk [] [] 0 []) E_ref13_Part ([(S_ref13_Part.mk (((v0)[Int.toNat v4]?.getD (S_tmpl_Part.mk [] [] 0 [])).f_Name) (((v0)[Int.toNat v4]?.getD (S_tmpl_Part.mk [] [] 0 [])).f_Text) (((v0)[Int.toNat v4]?.getD (S_tmpl_Part.mk [] [] 0 [])).f_Op) r1)])) ∧ GoodR (.recs (α := S_ref13_Part) (S_ref13_Part.mk [] [] 0 []) E_ref13_Part ([(S_ref13_Part.mk (((v0)[Int.toNat v4]?.getD (S_tmpl_Part.mk [] [] 0 [])).f_Name) (((v0)[Int.toNat v4]?.getD (S_tmpl_Part.mk [] [] 0 [])).f_Text) (((v0)[Int.toNat v4]?.getD (S_tmpl_Part.mk [] [] 0 [])).f_Op) r1)]))), (decide ((List.length v3 + List.length ([(S_ref13_Part.mk (((v0)[Int.toNat v4]?.getD (S_tmpl_Part.mk [] [] 0 [])).f_Name) (((v0)[Int.toNat v4]?.getD (S_tmpl_Part.mk [] [] 0 [])).f_Text) (((v0)[Int.toNat v4]?.getD (S_tmpl_Part.mk [] [] 0 [])).f_Op) r1)] : List (S_ref13_Part))) * (64 + 1) ≤ limit)) = true, (AppOb (S_ref13_Part.mk [] [] 0 []) E_ref13_Part v3 (List.flatMap E_ref13_Part ([(S_ref13_Part.mk (((v0)[Int.toNat v4]?.getD (S_tmpl_Part.mk [] [] 0 [])).f_Name) (((v0)[Int.toNat v4]?.getD (S_tmpl_Part.mk [] [] 0 [])).f_Text) (((v0)[Int.toNat v4]?.getD (S_tmpl_Part.mk [] [] 0 [])).f_Op) r1)] : List (S_ref13_Part))) (List.length ([(S_ref13_Part.mk (((v0)[Int.toNat v4]?.getD (S_tmpl_Part.mk [] [] 0 [])).f_Name) (((v0)[Int.toNat v4]?.getD (S_tmpl_Part.mk [] [] 0 [])).f_Text) (((v0)[Int.toNat v4]?.getD (S_tmpl_Part.mk [] [] 0 [])).f_Op) r1)] : List (S_ref13_Part))) (.recs (α := S_ref13_Part) (S_ref13_Part.mk [] [] 0 []) E_ref13_Part (v3 ++ ([(S_ref13_Part.mk (((v0)[Int.toNat v4]?.getD (S_tmpl_Part.mk [] [] 0 [])).f_Name) (((v0)[Int.toNat v4]?.getD (S_tmpl_Part.mk [] [] 0 [])).f_Text) (((v0)[Int.toNat v4]?.getD (S_tmpl_Part.mk [] [] 0 [])).f_Op) r1)] : List (S_ref13_Part)))) ∧ GoodR (.recs (α := S_ref13_Part) (S_ref13_Part.mk [] [] 0 []) E_ref13_Part (v3 ++ ([(S_ref13_Part.mk (((v0)[Int.toNat v4]?.getD (S_tmpl_Part.mk [] [] 0 [])).f_Name) (((v0)[Int.toNat v4]?.getD (S_tmpl_Part.mk [] [] 0 [])).f_Text) (((v0)[Int.toNat v4]?.getD (S_tmpl_Part.mk [] [] 0 [])).f_Op) r1)] : List (S_ref13_Part)))))]) (by kernel_rfl) (AllP.cons hc3 (AllP.cons hc3 (AllP.cons hc3 (AllP.cons hc3 (AllP.cons (fun _ => cx (hR_law13_taken (((v0)[Int.toNat v4]?.getD (S_tmpl_Part.mk [] [] 0 [])).f_Sub) _ hr1)) (AllP.cons (fun _ => mkObW (weaks_eq (ds := [.str (((v0)[Int.toNat v4]?.getD (S_tmpl_Part.mk [] [] 0 [])).f_Name), .str (((v0)[Int.toNat v4]?.getD (S_tmpl_Part.mk [] [] 0 [])).f_Text), .val (.int .i64 (((v0)[Int.toNat v4]?.getD (S_tmpl_Part.mk [] [] 0 [])).f_Op)), .recs (α := S_ref13_Part) (S_ref13_Part.mk [] [] 0 []) E_ref13_Part r1]) (es := [.str (((v0)[Int.toNat v4]?.getD (S_tmpl_Part.mk [] [] 0 [])).f_Name), .str (((v0)[Int.toNat v4]?.getD (S_tmpl_Part.mk [] [] 0 [])).f_Text), .val (.int .i64 (((v0)[Int.toNat v4]?.getD (S_tmpl_Part.mk [] [] 0 [])).f_Op)), .tree (α := S_ref13_Part) (S_ref13_Part.mk [] [] 0 []) pre_S_ref13_Part kids_S_ref13_Part r1]) (by kernel_rfl) (.cons (.refl _) (.cons (.refl _) (.cons (.refl _) (.cons (.close _ _ _ _) .nil)))) (by kernel_rfl)) rfl (by kernel_rfl) (good_E_ref13_Part _)) (AllP.cons hc4 (AllP.cons (appOb rfl rfl (good_E_ref13_Part _)) AllP.nil)))))))) ?_
      refine To.eq (K' := [(0, .recs (α := S_tmpl_Part) (S_tmpl_Part.mk [] [] 0 []) E_tmpl_Part v0), (3, .row 36), (4, .val (.int .i64 v4))]) (L' := [(36, 58, [.rowc false (α := S_ref13_Part) (S_ref13_Part.mk [] [] 0 []) E_ref13_Part x2])]) (by cases hx2; rfl) (by cases hx2; rfl) ?_
      refine To.blockN ?_
      refine To.thenN ?_
      refine Wp.region hΓ [] [] [] [0, 3, 4] [36] (K' := [(0, .recs (α := S_tmpl_Part) (S_tmpl_Part.mk [] [] 0 []) E_tmpl_Part v0), (3, .row 36), (4, .val (.int .i64 (IntKind.wrap .i64 (v4 + 1))))]) (L' := [(36, 58, [.rowc false (α := S_ref13_Part) (S_ref13_Part.mk [] [] 0 []) E_ref13_Part x2])]) (ob := []) (by kernel_rfl) AllP.nil ?_
      refine To.keep (kk := [0, 3, 4]) (kl := [36]) (K' := [(0, .recs (α := S_tmpl_Part) (S_tmpl_Part.mk [] [] 0 []) E_tmpl_Part v0), (3, .row 36), (4, .val (.int .i64 (IntKind.wrap .i64 (v4 + 1))))]) (L' := [(36, 58, [.rowc false (α := S_ref13_Part) (S_ref13_Part.mk [] [] 0 []) E_ref13_Part x2])]) (by kernel_rfl) (by kernel_rfl) ?_
      refine To.pre (St.rename 36 1003 (by decide) (K' := [(0, .recs (α := S_tmpl_Part) (S_tmpl_Part.mk [] [] 0 []) E_tmpl_Part v0), (3, .row 1003), (4, .val (.int .i64 (IntKind.wrap .i64 (v4 + 1))))]) (L' := [(1003, 58, [.rowc false (α := S_ref13_Part) (S_ref13_Part.mk [] [] 0 []) E_ref13_Part x2])]) (by kernel_rfl) (by kernel_rfl) (by kernel_rfl)) ?_
      refine To.keep (kk := [0, 3, 4]) (kl := [1003]) (K' := [(0, .recs (α := S_tmpl_Part) (S_tmpl_Part.mk [] [] 0 []) E_tmpl_Part v0), (3, .row 1003), (4, .val (.int .i64 (IntKind.wrap .i64 (v4 + 1))))]) (L' := [(1003, 58, [.rowc false (α := S_ref13_Part) (S_ref13_Part.mk [] [] 0 []) E_ref13_Part x2])]) (by kernel_rfl) (by kernel_rfl) ?_
      refine To.again ?_
      exact ih x2 (IntKind.wrap .i64 (v4 + 1)) _ h hQ
    · replace h := if_f hb h
      refine Wp.exit ?_
      refine To.thenX ?_
      refine To.thenX ?_
      refine To.keep (kk := [3]) (kl := [1003]) (K' := [(3, .row 1003)]) (L' := [(1003, 58, [.rowc false (α := S_ref13_Part) (S_ref13_Part.mk [] [] 0 []) E_ref13_Part v3])]) (by kernel_rfl) (by kernel_rfl) ?_
      cases h
      exact hQ
def law13_taken_b (R_law13_taken : (List (S_tmpl_Part)) → Option ((List (S_ref13_Part)))) (n : Nat) (a0 : List (S_tmpl_Part)) : Option ((List (S_ref13_Part))) :=
  (law13_taken_l1 R_law13_taken n a0 n ([] : List (S_ref13_Part)) 0).bind fun o1 =>
  some o1
end Go.Proofs.YtljnmojkhajolaaDoor.M