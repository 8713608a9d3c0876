import Derived.Test.YtibgdilkodjojaaDoorQRxAnyD
import Derived.Test.YtibgdilkodjojaaDoorQRxArgs
import Derived.Test.YtibgdilkodjojaaDoorQRxGoto
import Derived.Test.YtibgdilkodjojaaDoorQRxNil
import Derived.Test.YtibgdilkodjojaaDoorQRxOrd
import Derived.Test.YtibgdilkodjojaaDoorQRxEqArr
import Derived.Test.YtibgdilkodjojaaDoorQRxEnd
import Derived.Test.YtibgdilkodjojaaDoorQRxKeys
import Derived.Test.YtibgdilkodjojaaDoorQSh12
import Derived.Test.YtibgdilkodjojaaDoorQBld14
import Derived.Test.YtibgdilkodjojaaDoorProg
set_option linter.all false
namespace Go.Proofs.YtibgdilkodjojaaDoor.M
open Go.RowKit Go.Proofs.YtibgdilkodjojaaDoor.RX
set_option maxRecDepth 100000
def tab:List (Nat × TI):=[
 (3,{ agg:=false,size:=1,zero:=[.int .i64 0],kind:=.int .i64,eqs:=[] }),
 (4,{ agg:=false,size:=1,zero:=[.bool false],kind:=.bool,eqs:=[] }),
 (5,{ agg:=false,size:=1,zero:=[.int .u8 0],kind:=.int .u8,eqs:=[] }),
 (9,{ agg:=false,size:=1,zero:=[.string ⟨#[]⟩],kind:=.str,eqs:=[] }),
 (22,{ agg:=false,size:=1,zero:=[.slice none 0 0],kind:=.slice 2 true,elt:=43,eb:=32,ez:=[.string ⟨#[]⟩,.string ⟨#[]⟩],ek:=none,eqs:=[] }),
 (39,{ agg:=false,size:=1,zero:=[.slice none 0 0],kind:=.slice 1 false,elt:=9,eb:=16,ez:=[.string ⟨#[]⟩],ek:=none,eqs:=[] }),
 (43,{ agg:=true,size:=2,zero:=[.string ⟨#[]⟩,.string ⟨#[]⟩],kind:=.struct [(0,1,false),(1,1,false)],eqs:=[2,2] }),
 (71,{ agg:=false,size:=1,zero:=[.slice none 0 0],kind:=.slice 1 false,elt:=5,eb:=1,ez:=[.int .u8 0],ek:=some .u8,eqs:=[] }),
 (73,{ agg:=true,size:=2,zero:=[.pointer none,.slice none 0 0],kind:=.struct [(0,1,false),(1,1,false)],eqs:=[] }),
 (82,{ agg:=false,size:=1,zero:=[.map none],kind:=.map none 1 true,elt:=88,eb:=0,ez:=[.string ⟨#[]⟩],ek:=none,eqs:=[] }),
 (88,{ agg:=true,size:=1,zero:=[.string ⟨#[]⟩],kind:=.struct [(0,1,false)],eqs:=[] }),
 (115,{ agg:=false,size:=1,zero:=[.slice none 0 0],kind:=.slice 1 false,elt:=22,eb:=24,ez:=[.slice none 0 0],ek:=none,eqs:=[] })]
theorem tabOK:TabOK Tryd.prog tab:=⟨⟨by kernel_rfl,fun h=>absurd rfl h⟩,⟨by kernel_rfl,fun h=>absurd rfl h⟩,⟨by kernel_rfl,fun h=>absurd rfl h⟩,⟨by kernel_rfl,fun h=>absurd rfl h⟩,⟨by kernel_rfl,fun h=>absurd rfl h⟩,⟨by kernel_rfl,fun h=>absurd rfl h⟩,⟨by kernel_rfl,fun _=>eqCells_of (by kernel_rfl)⟩,⟨by kernel_rfl,fun h=>absurd rfl h⟩,⟨by kernel_rfl,fun h=>absurd rfl h⟩,⟨by kernel_rfl,fun h=>absurd rfl h⟩,⟨by kernel_rfl,fun h=>absurd rfl h⟩,⟨by kernel_rfl,fun h=>absurd rfl h⟩,trivial⟩
theorem hΓ:ΓOK Tryd.prog (tabΓ tab):=ΓOK.of tabOK
theorem hm:Tryd.prog.follows .mixedOrders = true:=by kernel_rfl
structure S_api_Var where
 f_Key:List UInt8
 f_Val:List UInt8
def E_api_Var:S_api_Var → List D:=fun x=>[.str x.f_Key,.str x.f_Val]
structure S_env_entry where
 f_val:List UInt8
def E_env_entry:S_env_entry → List D:=fun x=>[.str x.f_val]
def name_small (a0:Int):Bool :=
 (bif (decide (a0 ≥ 97)) then (decide (a0 ≤ 122)) else false)
theorem ok_name_small (a0:Int) (r:Bool) (h:name_small a0 = r):CallsX Tryd.prog 107 [.val (.int .u8 a0)] (.val (.bool r)):=by
 unfold name_small at h
 refine callsX_of (fn:=Tryd.f107) (by kernel_rfl) rfl (by kernel_rfl) (Nat.le_of_ble_eq_true (by kernel_rfl)) fun F0 w0 _=>?_
 refine Wp.keep (kk:=[0]) (kl:=[]) (K':=[(0,.val (.int .u8 a0))]) (L':=[]) (by kernel_rfl) (by kernel_rfl) ?_
 refine Wp.seq ?_
 refine Wp.region hΓ [] [] [] [0] [] (K':=[(0,.val (.int .u8 a0))]) (L':=[]) (ob:=[]) (by kernel_rfl) AllP.nil ?_
 refine To.thenN ?_
 refine Wp.seq ?_
 refine Wp.region hΓ [] [] [] [2] [] (K':=[(2,.val (.bool (bif (decide (a0 ≥ 97)) then (decide (a0 ≤ 122)) else false)))]) (L':=[]) (ob:=[]) (by kernel_rfl) AllP.nil ?_
 refine To.thenN ?_
 refine Wp.ret ?_
 refine To.keep (kk:=[2]) (kl:=[]) (K':=[(2,.val (.bool (bif (decide (a0 ≥ 97)) then (decide (a0 ≤ 122)) else false)))]) (L':=[]) (by kernel_rfl) (by kernel_rfl) ?_
 cases h
 exact To.done hΓ (by kernel_rfl)
def name_letter (a0:Int):Bool :=
 (bif (name_small a0) then true else (bif (decide (a0 ≥ 65)) then (decide (a0 ≤ 90)) else false))
theorem ok_name_letter (a0:Int) (r:Bool) (h:name_letter a0 = r):CallsX Tryd.prog 69 [.val (.int .u8 a0)] (.val (.bool r)):=by
 unfold name_letter at h
 refine callsX_of (fn:=Tryd.f69) (by kernel_rfl) rfl (by kernel_rfl) (Nat.le_of_ble_eq_true (by kernel_rfl)) fun F0 w0 _=>?_
 refine Wp.keep (kk:=[0]) (kl:=[]) (K':=[(0,.val (.int .u8 a0))]) (L':=[]) (by kernel_rfl) (by kernel_rfl) ?_
 refine Wp.seq ?_
 refine Wp.region hΓ [] [] [] [0] [] (K':=[(0,.val (.int .u8 a0))]) (L':=[]) (ob:=[]) (by kernel_rfl) AllP.nil ?_
 refine To.thenN ?_
 refine Wp.seq ?_
 refine Wp.region hΓ [] [(1,.val (.bool (name_small a0)))] [] [2] [] (K':=[(2,.val (.bool (bif (name_small a0) then true else (bif (decide (a0 ≥ 65)) then (decide (a0 ≤ 90)) else false))))]) (L':=[]) (ob:=[(true = true → CX Tryd.prog 107 [.val (.int .u8 a0)] (.val (.bool (name_small a0))))]) (by kernel_rfl) (AllP.cons (fun _=>cx (ok_name_small a0 _ rfl)) AllP.nil) ?_
 refine To.thenN ?_
 refine Wp.ret ?_
 refine To.keep (kk:=[2]) (kl:=[]) (K':=[(2,.val (.bool (bif (name_small a0) then true else (bif (decide (a0 ≥ 65)) then (decide (a0 ≤ 90)) else false))))]) (L':=[]) (by kernel_rfl) (by kernel_rfl) ?_
 cases h
 exact To.done hΓ (by kernel_rfl)
def name_Variable_1 (a0:Int):Bool :=
 (bif (name_letter a0) then true else (a0 == 95))
theorem ok_name_Variable_1 (a0:Int) (r:Bool) (h:name_Variable_1 a0 = r):CallsX Tryd.prog 68 [.val (.int .u8 a0)] (.val (.bool r)):=by
 unfold name_Variable_1 at h
 refine callsX_of (fn:=Tryd.f68) (by kernel_rfl) rfl (by kernel_rfl) (Nat.le_of_ble_eq_true (by kernel_rfl)) fun F0 w0 _=>?_
 refine Wp.keep (kk:=[0]) (kl:=[]) (K':=[(0,.val (.int .u8 a0))]) (L':=[]) (by kernel_rfl) (by kernel_rfl) ?_
 refine Wp.seq ?_
 refine Wp.region hΓ [] [] [] [0] [] (K':=[(0,.val (.int .u8 a0))]) (L':=[]) (ob:=[]) (by kernel_rfl) AllP.nil ?_
 refine To.thenN ?_
 refine Wp.seq ?_
 refine Wp.region hΓ [] [(1,.val (.bool (name_letter a0)))] [] [2] [] (K':=[(2,.val (.bool (bif (name_letter a0) then true else (a0 == 95))))]) (L':=[]) (ob:=[(true = true → CX Tryd.prog 69 [.val (.int .u8 a0)] (.val (.bool (name_letter a0))))]) (by kernel_rfl) (AllP.cons (fun _=>cx (ok_name_letter a0 _ rfl)) AllP.nil) ?_
 refine To.thenN ?_
 refine Wp.ret ?_
 refine To.keep (kk:=[2]) (kl:=[]) (K':=[(2,.val (.bool (bif (name_letter a0) then true else (a0 == 95))))]) (L':=[]) (by kernel_rfl) (by kernel_rfl) ?_
 cases h
 exact To.done hΓ (by kernel_rfl)
def name_number (a0:Int):Bool :=
 (bif (decide (a0 ≥ 48)) then (decide (a0 ≤ 57)) else false)
theorem ok_name_number (a0:Int) (r:Bool) (h:name_number a0 = r):CallsX Tryd.prog 71 [.val (.int .u8 a0)] (.val (.bool r)):=by
 unfold name_number at h
 refine callsX_of (fn:=Tryd.f71) (by kernel_rfl) rfl (by kernel_rfl) (Nat.le_of_ble_eq_true (by kernel_rfl)) fun F0 w0 _=>?_
 refine Wp.keep (kk:=[0]) (kl:=[]) (K':=[(0,.val (.int .u8 a0))]) (L':=[]) (by kernel_rfl) (by kernel_rfl) ?_
 refine Wp.seq ?_
 refine Wp.region hΓ [] [] [] [0] [] (K':=[(0,.val (.int .u8 a0))]) (L':=[]) (ob:=[]) (by kernel_rfl) AllP.nil ?_
 refine To.thenN ?_
 refine Wp.seq ?_
 refine Wp.region hΓ [] [] [] [2] [] (K':=[(2,.val (.bool (bif (decide (a0 ≥ 48)) then (decide (a0 ≤ 57)) else false)))]) (L':=[]) (ob:=[]) (by kernel_rfl) AllP.nil ?_
 refine To.thenN ?_
 refine Wp.ret ?_
 refine To.keep (kk:=[2]) (kl:=[]) (K':=[(2,.val (.bool (bif (decide (a0 ≥ 48)) then (decide (a0 ≤ 57)) else false)))]) (L':=[]) (by kernel_rfl) (by kernel_rfl) ?_
 cases h
 exact To.done hΓ (by kernel_rfl)
def name_Variable_2 (a0:Int):Bool :=
 (bif (bif (name_letter a0) then true else (name_number a0)) then true else (a0 == 95))
theorem ok_name_Variable_2 (a0:Int) (r:Bool) (h:name_Variable_2 a0 = r):CallsX Tryd.prog 70 [.val (.int .u8 a0)] (.val (.bool r)):=by
 unfold name_Variable_2 at h
 refine callsX_of (fn:=Tryd.f70) (by kernel_rfl) rfl (by kernel_rfl) (Nat.le_of_ble_eq_true (by kernel_rfl)) fun F0 w0 _=>?_
 refine Wp.keep (kk:=[0]) (kl:=[]) (K':=[(0,.val (.int .u8 a0))]) (L':=[]) (by kernel_rfl) (by kernel_rfl) ?_
 refine Wp.seq ?_
 refine Wp.region hΓ [] [] [] [0] [] (K':=[(0,.val (.int .u8 a0))]) (L':=[]) (ob:=[]) (by kernel_rfl) AllP.nil ?_
 refine To.thenN ?_
 refine Wp.seq ?_
 refine Wp.region hΓ [] [(1,.val (.bool (name_letter a0))),(4,.val (.bool (name_number a0)))] [] [2] [] (K':=[(2,.val (.bool (bif (bif (name_letter a0) then true else (name_number a0)) then true else (a0 == 95))))]) (L':=[]) (ob:=[(true = true → CX Tryd.prog 69 [.val (.int .u8 a0)] (.val (.bool (name_letter a0)))),(((name_letter a0) == false) = true → CX Tryd.prog 71 [.val (.int .u8 a0)] (.val (.bool (name_number a0))))]) (by kernel_rfl) (AllP.cons (fun _=>cx (ok_name_letter a0 _ rfl)) (AllP.cons (fun _=>cx (ok_name_number a0 _ rfl)) AllP.nil)) ?_
 refine To.thenN ?_
 refine Wp.ret ?_
 refine To.keep (kk:=[2]) (kl:=[]) (K':=[(2,.val (.bool (bif (bif (name_letter a0) then true else (name_number a0)) then true else (a0 == 95))))]) (L':=[]) (by kernel_rfl) (by kernel_rfl) ?_
 cases h
 exact To.done hΓ (by kernel_rfl)
def name_of__name_Variable_1__name_Variable_2_l1 (n:Nat) (v0:List UInt8):Nat → Int → Option (Sum (Unit) (Bool))
 | 0,_=>none
 | k + 1,v7=>if (decide (v7 < (List.length v0:Int))) = true then (if (decide (0 ≤ v7 ∧ v7 < (List.length v0:Int))) = true then (if (!(name_Variable_2 (((v0)[Int.toNat v7]?.getD 0).toNat:Int))) = true then (some (.inr false))
 else (name_of__name_Variable_1__name_Variable_2_l1 n v0 k (IntKind.wrap .i64 (v7 + 1)))) else none)
 else (some (.inl ()))
theorem ok_name_of__name_Variable_1__name_Variable_2_l1 (n:Nat) (v0:List UInt8) {F0:Fz} {w0:Pt Tryd.prog} {Q:Exit → Act → World → Prop} (k:Nat):∀ (v7:Int) (o:Sum (Unit) (Bool)),name_of__name_Variable_1__name_Variable_2_l1 n v0 k v7 = some o → (Sum.elim (fun s=>To 35 F0 w0 [] [] (.exit 0) Q) (fun s=>To 35 F0 w0 [(6,.val (.bool s))] [] .ret Q)) o → WL Tryd.prog 35 F0 w0 [(0,.str v0),(2,.fn 70 []),(7,.val (.int .i64 v7))] [] (cI (cI (cB (cA (cB (cB (cF Tryd.f67))))))) Q:=by
 induction k with
 | zero=>intro v7 o h; cases h
 | succ k ih =>
  intro v7 o h hQ
  rw [name_of__name_Variable_1__name_Variable_2_l1] at h
  refine WL.round ?_
  refine Wp.seq ?_
  refine Wp.seq ?_
  refine Wp.region hΓ [] [] [] [0,2,7,26] [] (K':=[(0,.str v0),(2,.fn 70 []),(7,.val (.int .i64 v7)),(26,.val (.bool (decide (v7 < (List.length v0:Int)))))]) (L':=[]) (ob:=[]) (by kernel_rfl) AllP.nil ?_
  refine To.thenN ?_
  refine Wp.cond (b:=(decide (v7 < (List.length v0:Int)))) (by kernel_rfl) (fun hb=>?_) (fun hb=>?_)
  ·replace h:=if_t hb h
   refine Wp.skip ?_
   refine To.thenN ?_
   refine Wp.seq ?_
   refine Wp.block ?_
   refine Wp.seq ?_
   obtain ⟨hc2,h⟩:=chk_of h
   refine Wp.region hΓ [] [(4,.val (.bool (name_Variable_2 (((v0)[Int.toNat v7]?.getD 0).toNat:Int))))] [] [0,2,7,34] [] (K':=[(0,.str v0),(2,.fn 70 []),(7,.val (.int .i64 v7)),(34,.val (.bool (!(name_Variable_2 (((v0)[Int.toNat v7]?.getD 0).toNat:Int)))))]) (L':=[]) (ob:=[(decide (0 ≤ v7 ∧ v7 < (List.length v0:Int))) = true,(true = true → CX Tryd.prog 70 [.val (.int .u8 (((v0)[Int.toNat v7]?.getD 0).toNat:Int))] (.val (.bool (name_Variable_2 (((v0)[Int.toNat v7]?.getD 0).toNat:Int)))))]) (by kernel_rfl) (AllP.cons hc2 (AllP.cons (fun _=>cx (ok_name_Variable_2 (((v0)[Int.toNat v7]?.getD 0).toNat:Int) _ rfl)) AllP.nil)) ?_
   refine To.thenN ?_
   refine Wp.cond (b:=(!(name_Variable_2 (((v0)[Int.toNat v7]?.getD 0).toNat:Int)))) (by kernel_rfl) (fun hb=>?_) (fun hb=>?_)
   ·replace h:=if_t hb h
    refine Wp.seq ?_
    refine Wp.region hΓ [] [] [] [6] [] (K':=[(6,.val (.bool false))]) (L':=[]) (ob:=[]) (by kernel_rfl) AllP.nil ?_
    refine To.thenN ?_
    refine Wp.ret ?_
    refine To.blockR ?_
    refine To.thenR ?_
    refine To.thenR ?_
    refine To.keep (kk:=[6]) (kl:=[]) (K':=[(6,.val (.bool false))]) (L':=[]) (by kernel_rfl) (by kernel_rfl) ?_
    cases h
    exact hQ
   ·replace h:=if_f hb h
    refine Wp.skip ?_
    refine To.blockN ?_
    refine To.thenN ?_
    refine Wp.region hΓ [] [] [] [0,2,7] [] (K':=[(0,.str v0),(2,.fn 70 []),(7,.val (.int .i64 (IntKind.wrap .i64 (v7 + 1))))]) (L':=[]) (ob:=[]) (by kernel_rfl) AllP.nil ?_
    refine To.keep (kk:=[0,2,7]) (kl:=[]) (K':=[(0,.str v0),(2,.fn 70 []),(7,.val (.int .i64 (IntKind.wrap .i64 (v7 + 1))))]) (L':=[]) (by kernel_rfl) (by kernel_rfl) ?_
    refine To.again ?_
    exact ih (IntKind.wrap .i64 (v7 + 1)) _ h hQ
  ·replace h:=if_f hb h
   refine Wp.exit ?_
   refine To.thenX ?_
   refine To.thenX ?_
   refine To.keep (kk:=[]) (kl:=[]) (K':=[]) (L':=[]) (by kernel_rfl) (by kernel_rfl) ?_
   cases h
   exact hQ
def name_of__name_Variable_1__name_Variable_2 (n:Nat) (a0:List UInt8):Option (Bool) :=
 if ((!((bif (decide ((List.length a0:Int) < 1)) then true else (decide ((List.length a0:Int) > 24))) == false) || decide (0 ≤ (0:Int) ∧ (0:Int) < (List.length a0:Int)))) = true then (lett ((bif (bif (decide ((List.length a0:Int) < 1)) then true else (decide ((List.length a0:Int) > 24))) then true else (!(name_Variable_1 (((a0)[Int.toNat 0]?.getD 0).toNat:Int)))):Bool) fun x1 =>
 if x1 = true then some false
 else ((name_of__name_Variable_1__name_Variable_2_l1 n a0 n 1).bind fun o2 =>
 (Sum.elim (fun o2=>some true) (fun o2=>some o2)) o2)) else none
theorem ok_name_of__name_Variable_1__name_Variable_2 (n:Nat) (a0:List UInt8) (r:Bool) (h:name_of__name_Variable_1__name_Variable_2 n a0 = some r):CallsX Tryd.prog 67 [.str a0,.fn 68 [],.fn 70 []] (.val (.bool r)):=by
 unfold name_of__name_Variable_1__name_Variable_2 at h
 refine callsX_of (fn:=Tryd.f67) (by kernel_rfl) rfl (by kernel_rfl) (Nat.le_of_ble_eq_true (by kernel_rfl)) fun F0 w0 _=>?_
 refine Wp.keep (kk:=[0,1,2]) (kl:=[]) (K':=[(0,.str a0),(1,.fn 68 []),(2,.fn 70 [])]) (L':=[]) (by kernel_rfl) (by kernel_rfl) ?_
 refine Wp.seq ?_
 refine Wp.region hΓ [] [] [] [0,1,2] [] (K':=[(0,.str a0),(1,.fn 68 []),(2,.fn 70 [])]) (L':=[]) (ob:=[]) (by kernel_rfl) AllP.nil ?_
 refine To.thenN ?_
 refine Wp.seq ?_
 refine Wp.seq ?_
 obtain ⟨hc3,h⟩:=chk_of h
 obtain ⟨x1,hx1,h⟩:=lett_of h
 refine Wp.region hΓ [] [(12,.val (.bool (name_Variable_1 (((a0)[Int.toNat 0]?.getD 0).toNat:Int))))] [] [0,2,22] [] (K':=[(0,.str a0),(2,.fn 70 []),(22,.val (.bool (bif (bif (decide ((List.length a0:Int) < 1)) then true else (decide ((List.length a0:Int) > 24))) then true else (!(name_Variable_1 (((a0)[Int.toNat 0]?.getD 0).toNat:Int))))))]) (L':=[]) (ob:=[(!((bif (decide ((List.length a0:Int) < 1)) then true else (decide ((List.length a0:Int) > 24))) == false) || decide (0 ≤ (0:Int) ∧ (0:Int) < (List.length a0:Int))) = true,(((bif (decide ((List.length a0:Int) < 1)) then true else (decide ((List.length a0:Int) > 24))) == false) = true → CX Tryd.prog 68 [.val (.int .u8 (((a0)[Int.toNat 0]?.getD 0).toNat:Int))] (.val (.bool (name_Variable_1 (((a0)[Int.toNat 0]?.getD 0).toNat:Int)))))]) (by kernel_rfl) (AllP.cons hc3 (AllP.cons (fun _=>cx (ok_name_Variable_1 (((a0)[Int.toNat 0]?.getD 0).toNat:Int) _ rfl)) AllP.nil)) ?_
 refine To.eq (K':=[(0,.str a0),(2,.fn 70 []),(22,.val (.bool x1))]) (L':=[]) (by cases hx1; rfl) (by cases hx1; rfl) ?_
 refine To.thenN ?_
 refine Wp.cond (b:=x1) (by kernel_rfl) (fun hb=>?_) (fun hb=>?_)
 ·replace h:=if_t hb h
  refine Wp.seq ?_
  refine Wp.region hΓ [] [] [] [6] [] (K':=[(6,.val (.bool false))]) (L':=[]) (ob:=[]) (by kernel_rfl) AllP.nil ?_
  refine To.thenN ?_
  refine Wp.ret ?_
  refine To.thenR ?_
  refine To.keep (kk:=[6]) (kl:=[]) (K':=[(6,.val (.bool false))]) (L':=[]) (by kernel_rfl) (by kernel_rfl) ?_
  cases h
  exact To.done hΓ (by kernel_rfl)
 ·replace h:=if_f hb h
  refine Wp.skip ?_
  refine To.thenN ?_
  refine Wp.seq ?_
  refine Wp.seq ?_
  refine Wp.region hΓ [] [] [] [0,2,7] [] (K':=[(0,.str a0),(2,.fn 70 []),(7,.val (.int .i64 1))]) (L':=[]) (ob:=[]) (by kernel_rfl) AllP.nil ?_
  refine To.thenN ?_
  refine Wp.block ?_
  obtain ⟨o2,ho2,h⟩:=bind_of h
  refine Wp.keep (kk:=[0,2,7]) (kl:=[]) (K':=[(0,.str a0),(2,.fn 70 []),(7,.val (.int .i64 1))]) (L':=[]) (by kernel_rfl) (by kernel_rfl) ?_
  refine Wp.loopL ?_
  refine ok_name_of__name_Variable_1__name_Variable_2_l1 n a0 n 1 o2 ho2 ?_
  rcases o2 with o2 | o2
  ·replace h:=sum_l h
   refine To.blockX ?_
   refine To.thenN ?_
   refine Wp.seq ?_
   refine Wp.region hΓ [] [] [] [6] [] (K':=[(6,.val (.bool true))]) (L':=[]) (ob:=[]) (by kernel_rfl) AllP.nil ?_
   refine To.thenN ?_
   refine Wp.ret ?_
   refine To.keep (kk:=[6]) (kl:=[]) (K':=[(6,.val (.bool true))]) (L':=[]) (by kernel_rfl) (by kernel_rfl) ?_
   cases h
   exact To.done hΓ (by kernel_rfl)
  ·replace h:=sum_r h
   refine To.blockR ?_
   refine To.thenR ?_
   refine To.keep (kk:=[6]) (kl:=[]) (K':=[(6,.val (.bool o2))]) (L':=[]) (by kernel_rfl) (by kernel_rfl) ?_
   cases h
   exact To.done hΓ (by kernel_rfl)
def name_Variable (n:Nat) (a0:List UInt8):Option (Bool) :=
 (name_of__name_Variable_1__name_Variable_2 n a0).bind fun r1 =>
 some r1
theorem ok_name_Variable (n:Nat) (a0:List UInt8) (r:Bool) (h:name_Variable n a0 = some r):CallsX Tryd.prog 40 [.str a0] (.val (.bool r)):=by
 unfold name_Variable at h
 refine callsX_of (fn:=Tryd.f40) (by kernel_rfl) rfl (by kernel_rfl) (Nat.le_of_ble_eq_true (by kernel_rfl)) fun F0 w0 _=>?_
 refine Wp.keep (kk:=[0]) (kl:=[]) (K':=[(0,.str a0)]) (L':=[]) (by kernel_rfl) (by kernel_rfl) ?_
 refine Wp.seq ?_
 refine Wp.region hΓ [] [] [] [0] [] (K':=[(0,.str a0)]) (L':=[]) (ob:=[]) (by kernel_rfl) AllP.nil ?_
 refine To.thenN ?_
 refine Wp.seq ?_
 obtain ⟨r1,hr1,h⟩:=bind_of h
 refine Wp.region hΓ [] [(1,.val (.bool r1))] [] [2] [] (K':=[(2,.val (.bool r1))]) (L':=[]) (ob:=[(true = true → CX Tryd.prog 67 [.str a0,.fn 68 [],.fn 70 []] (.val (.bool r1)))]) (by kernel_rfl) (AllP.cons (fun _=>cx (ok_name_of__name_Variable_1__name_Variable_2 n a0 _ hr1)) AllP.nil) ?_
 refine To.thenN ?_
 refine Wp.ret ?_
 refine To.keep (kk:=[2]) (kl:=[]) (K':=[(2,.val (.bool r1))]) (L':=[]) (by kernel_rfl) (by kernel_rfl) ?_
 cases h
 exact To.done hΓ (by kernel_rfl)
def quote_ok (a0:Int):Bool :=
 (bif (decide (a0 ≥ 32)) then (a0 != 127) else false)
theorem ok_quote_ok (a0:Int) (r:Bool) (h:quote_ok a0 = r):CallsX Tryd.prog 73 [.val (.int .u8 a0)] (.val (.bool r)):=by
 unfold quote_ok at h
 refine callsX_of (fn:=Tryd.f73) (by kernel_rfl) rfl (by kernel_rfl) (Nat.le_of_ble_eq_true (by kernel_rfl)) fun F0 w0 _=>?_
 refine Wp.keep (kk:=[0]) (kl:=[]) (K':=[(0,.val (.int .u8 a0))]) (L':=[]) (by kernel_rfl) (by kernel_rfl) ?_
 refine Wp.seq ?_
 refine Wp.region hΓ [] [] [] [0] [] (K':=[(0,.val (.int .u8 a0))]) (L':=[]) (ob:=[]) (by kernel_rfl) AllP.nil ?_
 refine To.thenN ?_
 refine Wp.seq ?_
 refine Wp.region hΓ [] [] [] [2] [] (K':=[(2,.val (.bool (bif (decide (a0 ≥ 32)) then (a0 != 127) else false)))]) (L':=[]) (ob:=[]) (by kernel_rfl) AllP.nil ?_
 refine To.thenN ?_
 refine Wp.ret ?_
 refine To.keep (kk:=[2]) (kl:=[]) (K':=[(2,.val (.bool (bif (decide (a0 ≥ 32)) then (a0 != 127) else false)))]) (L':=[]) (by kernel_rfl) (by kernel_rfl) ?_
 cases h
 exact To.done hΓ (by kernel_rfl)
def quote_hex (a0:Int):Int × Bool :=
 if (bif (decide (a0 ≥ 48)) then (decide (a0 ≤ 57)) else false) = true then (((IntKind.wrap .u8 (a0 - 48)),true))
 else (if (bif (decide (a0 ≥ 97)) then (decide (a0 ≤ 102)) else false) = true then (((IntKind.wrap .u8 ((IntKind.wrap .u8 (a0 - 97)) + 10)),true))
 else (if (bif (decide (a0 ≥ 65)) then (decide (a0 ≤ 70)) else false) = true then (((IntKind.wrap .u8 ((IntKind.wrap .u8 (a0 - 65)) + 10)),true))
 else ((0,false))))
theorem ok_quote_hex (a0:Int) (r:Int × Bool) (h:quote_hex a0 = r):CallsX Tryd.prog 148 [.val (.int .u8 a0)] (.tup [.val (.int .u8 r.1),.val (.bool r.2)]):=by
 unfold quote_hex at h
 refine callsX_of (fn:=Tryd.f148) (by kernel_rfl) rfl (by kernel_rfl) (Nat.le_of_ble_eq_true (by kernel_rfl)) fun F0 w0 _=>?_
 refine Wp.keep (kk:=[0]) (kl:=[]) (K':=[(0,.val (.int .u8 a0))]) (L':=[]) (by kernel_rfl) (by kernel_rfl) ?_
 refine Wp.seq ?_
 refine Wp.region hΓ [] [] [] [0] [] (K':=[(0,.val (.int .u8 a0))]) (L':=[]) (ob:=[]) (by kernel_rfl) AllP.nil ?_
 refine To.thenN ?_
 refine Wp.seq ?_
 refine Wp.block ?_
 refine Wp.seq ?_
 refine Wp.region hΓ [] [] [] [0,4] [] (K':=[(0,.val (.int .u8 a0)),(4,.val (.bool (bif (decide (a0 ≥ 48)) then (decide (a0 ≤ 57)) else false)))]) (L':=[]) (ob:=[]) (by kernel_rfl) AllP.nil ?_
 refine To.thenN ?_
 refine Wp.cond (b:=(bif (decide (a0 ≥ 48)) then (decide (a0 ≤ 57)) else false)) (by kernel_rfl) (fun hb=>?_) (fun hb=>?_)
 ·replace h:=if_t hb h
  refine Wp.seq ?_
  refine Wp.region hΓ [] [] [] [2,3] [] (K':=[(2,.val (.int .u8 (IntKind.wrap .u8 (a0 - 48)))),(3,.val (.bool true))]) (L':=[]) (ob:=[]) (by kernel_rfl) AllP.nil ?_
  refine To.thenN ?_
  refine Wp.ret ?_
  refine To.blockR ?_
  refine To.thenR ?_
  refine To.keep (kk:=[2,3]) (kl:=[]) (K':=[(2,.val (.int .u8 (IntKind.wrap .u8 (a0 - 48)))),(3,.val (.bool true))]) (L':=[]) (by kernel_rfl) (by kernel_rfl) ?_
  cases h
  exact To.done hΓ (by kernel_rfl)
 ·replace h:=if_f hb h
  refine Wp.seq ?_
  refine Wp.region hΓ [] [] [] [0,13] [] (K':=[(0,.val (.int .u8 a0)),(13,.val (.bool (bif (decide (a0 ≥ 97)) then (decide (a0 ≤ 102)) else false)))]) (L':=[]) (ob:=[]) (by kernel_rfl) AllP.nil ?_
  refine To.thenN ?_
  refine Wp.cond (b:=(bif (decide (a0 ≥ 97)) then (decide (a0 ≤ 102)) else false)) (by kernel_rfl) (fun hb=>?_) (fun hb=>?_)
  ·replace h:=if_t hb h
   refine Wp.seq ?_
   refine Wp.region hΓ [] [] [] [2,3] [] (K':=[(2,.val (.int .u8 (IntKind.wrap .u8 ((IntKind.wrap .u8 (a0 - 97)) + 10)))),(3,.val (.bool true))]) (L':=[]) (ob:=[]) (by kernel_rfl) AllP.nil ?_
   refine To.thenN ?_
   refine Wp.ret ?_
   refine To.blockR ?_
   refine To.thenR ?_
   refine To.keep (kk:=[2,3]) (kl:=[]) (K':=[(2,.val (.int .u8 (IntKind.wrap .u8 ((IntKind.wrap .u8 (a0 - 97)) + 10)))),(3,.val (.bool true))]) (L':=[]) (by kernel_rfl) (by kernel_rfl) ?_
   cases h
   exact To.done hΓ (by kernel_rfl)
  ·replace h:=if_f hb h
   refine Wp.seq ?_
   refine Wp.region hΓ [] [] [] [0,23] [] (K':=[(0,.val (.int .u8 a0)),(23,.val (.bool (bif (decide (a0 ≥ 65)) then (decide (a0 ≤ 70)) else false)))]) (L':=[]) (ob:=[]) (by kernel_rfl) AllP.nil ?_
   refine To.thenN ?_
   refine Wp.cond (b:=(bif (decide (a0 ≥ 65)) then (decide (a0 ≤ 70)) else false)) (by kernel_rfl) (fun hb=>?_) (fun hb=>?_)
   ·replace h:=if_t hb h
    refine Wp.seq ?_
    refine Wp.region hΓ [] [] [] [2,3] [] (K':=[(2,.val (.int .u8 (IntKind.wrap .u8 ((IntKind.wrap .u8 (a0 - 65)) + 10)))),(3,.val (.bool true))]) (L':=[]) (ob:=[]) (by kernel_rfl) AllP.nil ?_
    refine To.thenN ?_
    refine Wp.ret ?_
    refine To.blockR ?_
    refine To.thenR ?_
    refine To.keep (kk:=[2,3]) (kl:=[]) (K':=[(2,.val (.int .u8 (IntKind.wrap .u8 ((IntKind.wrap .u8 (a0 - 65)) + 10)))),(3,.val (.bool true))]) (L':=[]) (by kernel_rfl) (by kernel_rfl) ?_
    cases h
    exact To.done hΓ (by kernel_rfl)
   ·replace h:=if_f hb h
    refine Wp.skip ?_
    refine To.blockN ?_
    refine To.thenN ?_
    refine Wp.seq ?_
    refine Wp.region hΓ [] [] [] [2,3] [] (K':=[(2,.val (.int .u8 0)),(3,.val (.bool false))]) (L':=[]) (ob:=[]) (by kernel_rfl) AllP.nil ?_
    refine To.thenN ?_
    refine Wp.ret ?_
    refine To.keep (kk:=[2,3]) (kl:=[]) (K':=[(2,.val (.int .u8 0)),(3,.val (.bool false))]) (L':=[]) (by kernel_rfl) (by kernel_rfl) ?_
    cases h
    exact To.done hΓ (by kernel_rfl)
def quote_escape_j2 (n:Nat) (v0:List UInt8) (v12:Int) (v13:Bool):Option (Bool) :=
 if v13 = true then some v13
 else (some (v12 == 34))
theorem ok_quote_escape_j2 (n:Nat) (v0:List UInt8) (v12:Int) (v13:Bool) (o:Bool) (h:quote_escape_j2 n v0 v12 v13 = some o) {F0:Fz} {w0:Pt Tryd.prog} {Q:Exit → Act → World → Prop} (hQ:To 47 F0 w0 [(0,.str v0),(12,.val (.int .u8 v12)),(13,.val (.bool o))] [] .normal Q):Wp Tryd.prog 47 F0 w0 [(0,.str v0),(12,.val (.int .u8 v12)),(13,.val (.bool v13))] [] (cB (cA (cI (cB (cA (cB (cB (cF Tryd.f133)))))))) Q:=by
 unfold quote_escape_j2 at h
 refine Wp.cond (b:=v13) (by kernel_rfl) (fun hb=>?_) (fun hb=>?_)
 ·replace h:=if_t hb h
  refine Wp.skip ?_
  refine To.keep (kk:=[0,12,13]) (kl:=[]) (K':=[(0,.str v0),(12,.val (.int .u8 v12)),(13,.val (.bool v13))]) (L':=[]) (by kernel_rfl) (by kernel_rfl) ?_
  cases h
  exact hQ
 ·replace h:=if_f hb h
  refine Wp.region hΓ [] [] [] [0,12,13] [] (K':=[(0,.str v0),(12,.val (.int .u8 v12)),(13,.val (.bool (v12 == 34)))]) (L':=[]) (ob:=[]) (by kernel_rfl) AllP.nil ?_
  refine To.keep (kk:=[0,12,13]) (kl:=[]) (K':=[(0,.str v0),(12,.val (.int .u8 v12)),(13,.val (.bool (v12 == 34)))]) (L':=[]) (by kernel_rfl) (by kernel_rfl) ?_
  cases h
  exact hQ
def quote_escape_j1 (n:Nat) (v0:List UInt8) (v12:Int):Option (Sum (Unit) (Int × Int)) :=
 (quote_escape_j2 n v0 v12 (v12 == 92)).bind fun o1 =>
 if o1 = true then (if (decide (0 ≤ (1:Int) ∧ (1:Int) < (List.length v0:Int))) = true then (some (.inr ((((v0)[Int.toNat 1]?.getD 0).toNat:Int),2))) else none)
 else (if (v12 == 110) = true then (some (.inr (10,2)))
 else (if (v12 == 116) = true then (some (.inr (9,2)))
 else (if (v12 == 120) = true then (if (decide ((List.length v0:Int) < 4)) = true then (some (.inr (0,0)))
 else (if (decide (0 ≤ (2:Int) ∧ (2:Int) < (List.length v0:Int))) = true then (lett (quote_hex (((v0)[Int.toNat 2]?.getD 0).toNat:Int)) fun r3 =>
 if (decide (0 ≤ (3:Int) ∧ (3:Int) < (List.length v0:Int))) = true then (lett (quote_hex (((v0)[Int.toNat 3]?.getD 0).toNat:Int)) fun r4 =>
 if (bif r3.2 then r4.2 else false) = true then (if (decide (0 ≤ (4:Int))) = true then (lett ((IntKind.wrap .u8 ((BitVec.ofInt (IntKind.bits .u8) (IntKind.wrap .u8 (r3.1 * 2 ^ (min (Int.toNat 4) (IntKind.bits .u8)))) ||| BitVec.ofInt (IntKind.bits .u8) r4.1).toNat)):Int) fun x5 =>
 some (.inr (x5,4))) else none)
 else (some (.inl ()))) else none) else none))
 else (some (.inl ())))))
theorem ok_quote_escape_j1 (n:Nat) (v0:List UInt8) (v12:Int) (o:Sum (Unit) (Int × Int)) (h:quote_escape_j1 n v0 v12 = some o) {F0:Fz} {w0:Pt Tryd.prog} {Q:Exit → Act → World → Prop} (hQ:(Sum.elim (fun s=>To 47 F0 w0 [] [] .normal Q) (fun s=>To 47 F0 w0 [(2,.val (.int .u8 s.1)),(3,.val (.int .i64 s.2))] [] .ret Q)) o):Wp Tryd.prog 47 F0 w0 [(0,.str v0),(12,.val (.int .u8 v12))] [] (cB (cA (cB (cB (cF Tryd.f133))))) Q:=by
 unfold quote_escape_j1 at h
 refine Wp.block ?_
 refine Wp.seq ?_
 refine Wp.seq ?_
 refine Wp.region hΓ [] [] [] [0,12,13] [] (K':=[(0,.str v0),(12,.val (.int .u8 v12)),(13,.val (.bool (v12 == 92)))]) (L':=[]) (ob:=[]) (by kernel_rfl) AllP.nil ?_
 refine To.thenN ?_
 obtain ⟨o1,ho1,h⟩:=bind_of h
 refine Wp.keep (kk:=[0,12,13]) (kl:=[]) (K':=[(0,.str v0),(12,.val (.int .u8 v12)),(13,.val (.bool (v12 == 92)))]) (L':=[]) (by kernel_rfl) (by kernel_rfl) ?_
 refine ok_quote_escape_j2 n v0 v12 (v12 == 92) o1 ho1 ?_
 refine To.thenN ?_
 refine Wp.cond (b:=o1) (by kernel_rfl) (fun hb=>?_) (fun hb=>?_)
 ·replace h:=if_t hb h
  refine Wp.seq ?_
  obtain ⟨hc2,h⟩:=chk_of h
  refine Wp.region hΓ [] [] [] [2,3] [] (K':=[(2,.val (.int .u8 (((v0)[Int.toNat 1]?.getD 0).toNat:Int))),(3,.val (.int .i64 2))]) (L':=[]) (ob:=[(decide (0 ≤ (1:Int) ∧ (1:Int) < (List.length v0:Int))) = true]) (by kernel_rfl) (AllP.cons hc2 AllP.nil) ?_
  refine To.thenN ?_
  refine Wp.ret ?_
  refine To.blockR ?_
  refine To.keep (kk:=[2,3]) (kl:=[]) (K':=[(2,.val (.int .u8 (((v0)[Int.toNat 1]?.getD 0).toNat:Int))),(3,.val (.int .i64 2))]) (L':=[]) (by kernel_rfl) (by kernel_rfl) ?_
  cases h
  exact hQ
 ·replace h:=if_f hb h
  refine Wp.seq ?_
  refine Wp.region hΓ [] [] [] [0,12,18] [] (K':=[(0,.str v0),(12,.val (.int .u8 v12)),(18,.val (.bool (v12 == 110)))]) (L':=[]) (ob:=[]) (by kernel_rfl) AllP.nil ?_
  refine To.thenN ?_
  refine Wp.cond (b:=(v12 == 110)) (by kernel_rfl) (fun hb=>?_) (fun hb=>?_)
  ·replace h:=if_t hb h
   refine Wp.seq ?_
   refine Wp.region hΓ [] [] [] [2,3] [] (K':=[(2,.val (.int .u8 10)),(3,.val (.int .i64 2))]) (L':=[]) (ob:=[]) (by kernel_rfl) AllP.nil ?_
   refine To.thenN ?_
   refine Wp.ret ?_
   refine To.blockR ?_
   refine To.keep (kk:=[2,3]) (kl:=[]) (K':=[(2,.val (.int .u8 10)),(3,.val (.int .i64 2))]) (L':=[]) (by kernel_rfl) (by kernel_rfl) ?_
   cases h
   exact hQ
  ·replace h:=if_f hb h
   refine Wp.seq ?_
   refine Wp.region hΓ [] [] [] [0,12,20] [] (K':=[(0,.str v0),(12,.val (.int .u8 v12)),(20,.val (.bool (v12 == 116)))]) (L':=[]) (ob:=[]) (by kernel_rfl) AllP.nil ?_
   refine To.thenN ?_
   refine Wp.cond (b:=(v12 == 116)) (by kernel_rfl) (fun hb=>?_) (fun hb=>?_)
   ·replace h:=if_t hb h
    refine Wp.seq ?_
    refine Wp.region hΓ [] [] [] [2,3] [] (K':=[(2,.val (.int .u8 9)),(3,.val (.int .i64 2))]) (L':=[]) (ob:=[]) (by kernel_rfl) AllP.nil ?_
    refine To.thenN ?_
    refine Wp.ret ?_
    refine To.blockR ?_
    refine To.keep (kk:=[2,3]) (kl:=[]) (K':=[(2,.val (.int .u8 9)),(3,.val (.int .i64 2))]) (L':=[]) (by kernel_rfl) (by kernel_rfl) ?_
    cases h
    exact hQ
   ·replace h:=if_f hb h
    refine Wp.seq ?_
    refine Wp.region hΓ [] [] [] [0,22] [] (K':=[(0,.str v0),(22,.val (.bool (v12 == 120)))]) (L':=[]) (ob:=[]) (by kernel_rfl) AllP.nil ?_
    refine To.thenN ?_
    refine Wp.cond (b:=(v12 == 120)) (by kernel_rfl) (fun hb=>?_) (fun hb=>?_)
    ·replace h:=if_t hb h
     refine Wp.seq ?_
     refine Wp.seq ?_
     refine Wp.region hΓ [] [] [] [0,26] [] (K':=[(0,.str v0),(26,.val (.bool (decide ((List.length v0:Int) < 4))))]) (L':=[]) (ob:=[]) (by kernel_rfl) AllP.nil ?_
     refine To.thenN ?_
     refine Wp.cond (b:=(decide ((List.length v0:Int) < 4))) (by kernel_rfl) (fun hb=>?_) (fun hb=>?_)
     ·replace h:=if_t hb h
      refine Wp.seq ?_
      refine Wp.region hΓ [] [] [] [2,3] [] (K':=[(2,.val (.int .u8 0)),(3,.val (.int .i64 0))]) (L':=[]) (ob:=[]) (by kernel_rfl) AllP.nil ?_
      refine To.thenN ?_
      refine Wp.ret ?_
      refine To.thenR ?_
      refine To.blockR ?_
      refine To.keep (kk:=[2,3]) (kl:=[]) (K':=[(2,.val (.int .u8 0)),(3,.val (.int .i64 0))]) (L':=[]) (by kernel_rfl) (by kernel_rfl) ?_
      cases h
      exact hQ
     ·replace h:=if_f hb h
      refine Wp.skip ?_
      refine To.thenN ?_
      refine Wp.seq ?_
      obtain ⟨hc8,h⟩:=chk_of h
      obtain ⟨r3,hr3,h⟩:=lett_of h
      refine Wp.region hΓ [] [(2,.tup [.val (.int .u8 r3.1),.val (.bool r3.2)])] [] [0,4,5] [] (K':=[(0,.str v0),(4,.val (.int .u8 r3.1)),(5,.val (.bool r3.2))]) (L':=[]) (ob:=[(decide (0 ≤ (2:Int) ∧ (2:Int) < (List.length v0:Int))) = true,(true = true → CX Tryd.prog 148 [.val (.int .u8 (((v0)[Int.toNat 2]?.getD 0).toNat:Int))] (.tup [.val (.int .u8 r3.1),.val (.bool r3.2)]))]) (by kernel_rfl) (AllP.cons hc8 (AllP.cons (fun _=>cx (ok_quote_hex (((v0)[Int.toNat 2]?.getD 0).toNat:Int) _ hr3)) AllP.nil)) ?_
      refine To.thenN ?_
      refine Wp.seq ?_
      obtain ⟨hc7,h⟩:=chk_of h
      obtain ⟨r4,hr4,h⟩:=lett_of h
      refine Wp.region hΓ [] [(2,.tup [.val (.int .u8 r4.1),.val (.bool r4.2)])] [] [4,5,6,7] [] (K':=[(4,.val (.int .u8 r3.1)),(5,.val (.bool r3.2)),(6,.val (.int .u8 r4.1)),(7,.val (.bool r4.2))]) (L':=[]) (ob:=[(decide (0 ≤ (3:Int) ∧ (3:Int) < (List.length v0:Int))) = true,(true = true → CX Tryd.prog 148 [.val (.int .u8 (((v0)[Int.toNat 3]?.getD 0).toNat:Int))] (.tup [.val (.int .u8 r4.1),.val (.bool r4.2)]))]) (by kernel_rfl) (AllP.cons hc7 (AllP.cons (fun _=>cx (ok_quote_hex (((v0)[Int.toNat 3]?.getD 0).toNat:Int) _ hr4)) AllP.nil)) ?_
      refine To.thenN ?_
      refine Wp.seq ?_
      refine Wp.region hΓ [] [] [] [4,6,42] [] (K':=[(4,.val (.int .u8 r3.1)),(6,.val (.int .u8 r4.1)),(42,.val (.bool (bif r3.2 then r4.2 else false)))]) (L':=[]) (ob:=[]) (by kernel_rfl) AllP.nil ?_
      refine To.thenN ?_
      refine Wp.cond (b:=(bif r3.2 then r4.2 else false)) (by kernel_rfl) (fun hb=>?_) (fun hb=>?_)
      ·replace h:=if_t hb h
       refine Wp.seq ?_
       obtain ⟨hc6,h⟩:=chk_of h
       obtain ⟨x5,hx5,h⟩:=lett_of h
       refine Wp.region hΓ [] [] [] [2,3] [] (K':=[(2,.val (.int .u8 (IntKind.wrap .u8 ((BitVec.ofInt (IntKind.bits .u8) (IntKind.wrap .u8 (r3.1 * 2 ^ (min (Int.toNat 4) (IntKind.bits .u8)))) ||| BitVec.ofInt (IntKind.bits .u8) r4.1).toNat)))),(3,.val (.int .i64 4))]) (L':=[]) (ob:=[(decide (0 ≤ (4:Int))) = true]) (by kernel_rfl) (AllP.cons hc6 AllP.nil) ?_
       refine To.eq (K':=[(2,.val (.int .u8 x5)),(3,.val (.int .i64 4))]) (L':=[]) (by cases hx5; rfl) (by cases hx5; rfl) ?_
       refine To.thenN ?_
       refine Wp.ret ?_
       refine To.blockR ?_
       refine To.keep (kk:=[2,3]) (kl:=[]) (K':=[(2,.val (.int .u8 x5)),(3,.val (.int .i64 4))]) (L':=[]) (by kernel_rfl) (by kernel_rfl) ?_
       cases h
       exact hQ
      ·replace h:=if_f hb h
       refine Wp.skip ?_
       refine To.blockN ?_
       refine To.keep (kk:=[]) (kl:=[]) (K':=[]) (L':=[]) (by kernel_rfl) (by kernel_rfl) ?_
       cases h
       exact hQ
    ·replace h:=if_f hb h
     refine Wp.skip ?_
     refine To.blockN ?_
     refine To.keep (kk:=[]) (kl:=[]) (K':=[]) (L':=[]) (by kernel_rfl) (by kernel_rfl) ?_
     cases h
     exact hQ
def quote_escape (n:Nat) (a0:List UInt8):Option (Int × Int) :=
 if (decide ((List.length a0:Int) < 2)) = true then (some (0,0))
 else (if (decide (0 ≤ (1:Int) ∧ (1:Int) < (List.length a0:Int))) = true then ((quote_escape_j1 n a0 (((a0)[Int.toNat 1]?.getD 0).toNat:Int)).bind fun o1 =>
 (Sum.elim (fun o1=>some (0,0)) (fun o1=>some (o1.1,o1.2))) o1) else none)
theorem ok_quote_escape (n:Nat) (a0:List UInt8) (r:Int × Int) (h:quote_escape n a0 = some r):CallsX Tryd.prog 133 [.str a0] (.tup [.val (.int .u8 r.1),.val (.int .i64 r.2)]):=by
 unfold quote_escape at h
 refine callsX_of (fn:=Tryd.f133) (by kernel_rfl) rfl (by kernel_rfl) (Nat.le_of_ble_eq_true (by kernel_rfl)) fun F0 w0 _=>?_
 refine Wp.keep (kk:=[0]) (kl:=[]) (K':=[(0,.str a0)]) (L':=[]) (by kernel_rfl) (by kernel_rfl) ?_
 refine Wp.seq ?_
 refine Wp.region hΓ [] [] [] [0] [] (K':=[(0,.str a0)]) (L':=[]) (ob:=[]) (by kernel_rfl) AllP.nil ?_
 refine To.thenN ?_
 refine Wp.seq ?_
 refine Wp.seq ?_
 refine Wp.region hΓ [] [] [] [0,10] [] (K':=[(0,.str a0),(10,.val (.bool (decide ((List.length a0:Int) < 2))))]) (L':=[]) (ob:=[]) (by kernel_rfl) AllP.nil ?_
 refine To.thenN ?_
 refine Wp.cond (b:=(decide ((List.length a0:Int) < 2))) (by kernel_rfl) (fun hb=>?_) (fun hb=>?_)
 ·replace h:=if_t hb h
  refine Wp.seq ?_
  refine Wp.region hΓ [] [] [] [2,3] [] (K':=[(2,.val (.int .u8 0)),(3,.val (.int .i64 0))]) (L':=[]) (ob:=[]) (by kernel_rfl) AllP.nil ?_
  refine To.thenN ?_
  refine Wp.ret ?_
  refine To.thenR ?_
  refine To.keep (kk:=[2,3]) (kl:=[]) (K':=[(2,.val (.int .u8 0)),(3,.val (.int .i64 0))]) (L':=[]) (by kernel_rfl) (by kernel_rfl) ?_
  cases h
  exact To.done hΓ (by kernel_rfl)
 ·replace h:=if_f hb h
  refine Wp.skip ?_
  refine To.thenN ?_
  refine Wp.seq ?_
  refine Wp.seq ?_
  obtain ⟨hc2,h⟩:=chk_of h
  refine Wp.region hΓ [] [] [] [0,12] [] (K':=[(0,.str a0),(12,.val (.int .u8 (((a0)[Int.toNat 1]?.getD 0).toNat:Int)))]) (L':=[]) (ob:=[(decide (0 ≤ (1:Int) ∧ (1:Int) < (List.length a0:Int))) = true]) (by kernel_rfl) (AllP.cons hc2 AllP.nil) ?_
  refine To.thenN ?_
  obtain ⟨o1,ho1,h⟩:=bind_of h
  refine Wp.keep (kk:=[0,12]) (kl:=[]) (K':=[(0,.str a0),(12,.val (.int .u8 (((a0)[Int.toNat 1]?.getD 0).toNat:Int)))]) (L':=[]) (by kernel_rfl) (by kernel_rfl) ?_
  refine ok_quote_escape_j1 n a0 (((a0)[Int.toNat 1]?.getD 0).toNat:Int) o1 ho1 ?_
  rcases o1 with o1 | o1
  ·replace h:=sum_l h
   refine To.thenN ?_
   refine Wp.seq ?_
   refine Wp.region hΓ [] [] [] [2,3] [] (K':=[(2,.val (.int .u8 0)),(3,.val (.int .i64 0))]) (L':=[]) (ob:=[]) (by kernel_rfl) AllP.nil ?_
   refine To.thenN ?_
   refine Wp.ret ?_
   refine To.keep (kk:=[2,3]) (kl:=[]) (K':=[(2,.val (.int .u8 0)),(3,.val (.int .i64 0))]) (L':=[]) (by kernel_rfl) (by kernel_rfl) ?_
   cases h
   exact To.done hΓ (by kernel_rfl)
  ·replace h:=sum_r h
   refine To.thenR ?_
   refine To.keep (kk:=[2,3]) (kl:=[]) (K':=[(2,.val (.int .u8 o1.1)),(3,.val (.int .i64 o1.2))]) (L':=[]) (by kernel_rfl) (by kernel_rfl) ?_
   cases h
   exact To.done hΓ (by kernel_rfl)
def quote_Scan_l1 (n:Nat) (v0:List UInt8) (v7:Int):Nat → Int → (List (UInt8)) → Option (Sum (Unit) ((List UInt8) × Int × Int))
 | 0,_,_=>none
 | k + 1,v1,v8=>if ((!((decide (v1 < (List.length v0:Int))) == true) || decide (0 ≤ v1 ∧ v1 < (List.length v0:Int)))) = true then (if (bif (decide (v1 < (List.length v0:Int))) then (quote_ok (((v0)[Int.toNat v1]?.getD 0).toNat:Int)) else false) = true then (if (decide (0 ≤ v1 ∧ v1 < (List.length v0:Int))) = true then (if ((!((bif (bif ((((v0)[Int.toNat v1]?.getD 0).toNat:Int) == 39) then (v7 == (((v0)[Int.toNat v1]?.getD 0).toNat:Int)) else false) then (decide ((IntKind.wrap .i64 (v1 + 1)) < (List.length v0:Int))) else false) == true) || decide (0 ≤ (IntKind.wrap .i64 (v1 + 1)) ∧ (IntKind.wrap .i64 (v1 + 1)) < (List.length v0:Int)))) = true then (lett ((bif (bif (bif ((((v0)[Int.toNat v1]?.getD 0).toNat:Int) == 39) then (v7 == (((v0)[Int.toNat v1]?.getD 0).toNat:Int)) else false) then (decide ((IntKind.wrap .i64 (v1 + 1)) < (List.length v0:Int))) else false) then ((((v0)[Int.toNat (IntKind.wrap .i64 (v1 + 1))]?.getD 0).toNat:Int) == (((v0)[Int.toNat v1]?.getD 0).toNat:Int)) else false):Bool) fun x2 =>
 if x2 = true then (if (decide ((List.length v8 + List.length ([((v0)[Int.toNat v1]?.getD 0)]:List (UInt8))) * (1 + 1) ≤ limit)) = true then (quote_Scan_l1 n v0 v7 k (IntKind.wrap .i64 (v1 + 2)) (v8 ++ ([((v0)[Int.toNat v1]?.getD 0)]:List (UInt8)))) else none)
 else (if ((((v0)[Int.toNat v1]?.getD 0).toNat:Int) == v7) = true then (some (.inr (v8,(IntKind.wrap .i64 (v1 + 1)),0)))
 else (if (bif ((((v0)[Int.toNat v1]?.getD 0).toNat:Int) == 92) then (v7 == 34) else false) = true then (if (decide (0 ≤ v1 ∧ v1 ≤ (List.length v0:Int))) = true then ((quote_escape n (List.drop (Int.toNat v1) v0)).bind fun r4 =>
 if (r4.2 == 0) = true then (some (.inr ([],0,3)))
 else (if (decide (0 ≤ r4.1 ∧ r4.1 < 256)) = true then (if (decide ((List.length v8 + List.length ([(UInt8.ofNat (Int.toNat r4.1))]:List (UInt8))) * (1 + 1) ≤ limit)) = true then (quote_Scan_l1 n v0 v7 k (IntKind.wrap .i64 (v1 + r4.2)) (v8 ++ ([(UInt8.ofNat (Int.toNat r4.1))]:List (UInt8)))) else none) else none)) else none)
 else (if (decide ((List.length v8 + List.length ([((v0)[Int.toNat v1]?.getD 0)]:List (UInt8))) * (1 + 1) ≤ limit)) = true then (quote_Scan_l1 n v0 v7 k (IntKind.wrap .i64 (v1 + 1)) (v8 ++ ([((v0)[Int.toNat v1]?.getD 0)]:List (UInt8)))) else none)))) else none) else none)
 else (some (.inl ()))) else none
theorem ok_quote_Scan_l1 (n:Nat) (v0:List UInt8) (v7:Int) {F0:Fz} {w0:Pt Tryd.prog} {Q:Exit → Act → World → Prop} (k:Nat):∀ (v1:Int) (v8:List (UInt8)) (o:Sum (Unit) ((List UInt8) × Int × Int)),quote_Scan_l1 n v0 v7 k v1 v8 = some o → (Sum.elim (fun s=>To 116 F0 w0 [] [] (.exit 0) Q) (fun s=>To 116 F0 w0 [(4,.str s.1),(5,.val (.int .i64 s.2.1)),(6,.val (.int .i64 s.2.2))] [] .ret Q)) o → WL Tryd.prog 116 F0 w0 [(0,.str v0),(1,.val (.int .i64 v1)),(7,.val (.int .u8 v7)),(8,.row 1008)] [(1008,5,[.rowc false (α:=UInt8) 0 e8 v8])] (cI (cI (cB (cA (cB (cB (cB (cB (cF Tryd.f101))))))))) Q:=by
 induction k with
 | zero=>intro v1 v8 o h; cases h
 | succ k ih =>
  intro v1 v8 o h hQ
  rw [quote_Scan_l1] at h
  refine WL.round ?_
  refine Wp.seq ?_
  refine Wp.seq ?_
  obtain ⟨hc11,h⟩:=chk_of h
  refine Wp.region hΓ [] [(8,.val (.bool (quote_ok (((v0)[Int.toNat v1]?.getD 0).toNat:Int))))] [] [0,1,7,8,46] [1008] (K':=[(0,.str v0),(1,.val (.int .i64 v1)),(7,.val (.int .u8 v7)),(8,.row 1008),(46,.val (.bool (bif (decide (v1 < (List.length v0:Int))) then (quote_ok (((v0)[Int.toNat v1]?.getD 0).toNat:Int)) else false)))]) (L':=[(1008,5,[.rowc false (α:=UInt8) 0 e8 v8])]) (ob:=[(!((decide (v1 < (List.length v0:Int))) == true) || decide (0 ≤ v1 ∧ v1 < (List.length v0:Int))) = true,(((decide (v1 < (List.length v0:Int))) == true) = true → CX Tryd.prog 73 [.val (.int .u8 (((v0)[Int.toNat v1]?.getD 0).toNat:Int))] (.val (.bool (quote_ok (((v0)[Int.toNat v1]?.getD 0).toNat:Int)))))]) (by kernel_rfl) (AllP.cons hc11 (AllP.cons (fun _=>cx (ok_quote_ok (((v0)[Int.toNat v1]?.getD 0).toNat:Int) _ rfl)) AllP.nil)) ?_
  refine To.thenN ?_
  refine Wp.cond (b:=(bif (decide (v1 < (List.length v0:Int))) then (quote_ok (((v0)[Int.toNat v1]?.getD 0).toNat:Int)) else false)) (by kernel_rfl) (fun hb=>?_) (fun hb=>?_)
  ·replace h:=if_t hb h
   refine Wp.skip ?_
   refine To.thenN ?_
   refine Wp.block ?_
   refine Wp.seq ?_
   obtain ⟨hc10,h⟩:=chk_of h
   refine Wp.region hΓ [] [] [] [0,1,7,8,9] [1008] (K':=[(0,.str v0),(1,.val (.int .i64 v1)),(7,.val (.int .u8 v7)),(8,.row 1008),(9,.val (.int .u8 (((v0)[Int.toNat v1]?.getD 0).toNat:Int)))]) (L':=[(1008,5,[.rowc false (α:=UInt8) 0 e8 v8])]) (ob:=[(decide (0 ≤ v1 ∧ v1 < (List.length v0:Int))) = true]) (by kernel_rfl) (AllP.cons hc10 AllP.nil) ?_
   refine To.thenN ?_
   refine Wp.block ?_
   refine Wp.seq ?_
   obtain ⟨hc9,h⟩:=chk_of h
   obtain ⟨x2,hx2,h⟩:=lett_of h
   refine Wp.region hΓ [] [] [] [0,1,7,8,9,56] [1008] (K':=[(0,.str v0),(1,.val (.int .i64 v1)),(7,.val (.int .u8 v7)),(8,.row 1008),(9,.val (.int .u8 (((v0)[Int.toNat v1]?.getD 0).toNat:Int))),(56,.val (.bool (bif (bif (bif ((((v0)[Int.toNat v1]?.getD 0).toNat:Int) == 39) then (v7 == (((v0)[Int.toNat v1]?.getD 0).toNat:Int)) else false) then (decide ((IntKind.wrap .i64 (v1 + 1)) < (List.length v0:Int))) else false) then ((((v0)[Int.toNat (IntKind.wrap .i64 (v1 + 1))]?.getD 0).toNat:Int) == (((v0)[Int.toNat v1]?.getD 0).toNat:Int)) else false)))]) (L':=[(1008,5,[.rowc false (α:=UInt8) 0 e8 v8])]) (ob:=[(!((bif (bif ((((v0)[Int.toNat v1]?.getD 0).toNat:Int) == 39) then (v7 == (((v0)[Int.toNat v1]?.getD 0).toNat:Int)) else false) then (decide ((IntKind.wrap .i64 (v1 + 1)) < (List.length v0:Int))) else false) == true) || decide (0 ≤ (IntKind.wrap .i64 (v1 + 1)) ∧ (IntKind.wrap .i64 (v1 + 1)) < (List.length v0:Int))) = true]) (by kernel_rfl) (AllP.cons hc9 AllP.nil) ?_
   refine To.eq (K':=[(0,.str v0),(1,.val (.int .i64 v1)),(7,.val (.int .u8 v7)),(8,.row 1008),(9,.val (.int .u8 (((v0)[Int.toNat v1]?.getD 0).toNat:Int))),(56,.val (.bool x2))]) (L':=[(1008,5,[.rowc false (α:=UInt8) 0 e8 v8])]) (by cases hx2; rfl) (by cases hx2; rfl) ?_
   refine To.thenN ?_
   refine Wp.cond (b:=x2) (by kernel_rfl) (fun hb=>?_) (fun hb=>?_)
   ·replace h:=if_t hb h
    refine Wp.seq ?_
    obtain ⟨hc3,h⟩:=chk_of h
    refine Wp.region hΓ [] [(2,.recs (α:=UInt8) 0 e8 ([((v0)[Int.toNat v1]?.getD 0)])),(3,.recs (α:=UInt8) 0 e8 (v8 ++ ([((v0)[Int.toNat v1]?.getD 0)]:List (UInt8))))] [] [0,1,7,8] [82] (K':=[(0,.str v0),(1,.val (.int .i64 v1)),(7,.val (.int .u8 v7)),(8,.row 82)]) (L':=[(82,5,[.rowc false (α:=UInt8) 0 e8 (v8 ++ ([((v0)[Int.toNat v1]?.getD 0)]:List (UInt8)))])]) (ob:=[(MkOb 1 [.val (.int .u8 (((v0)[Int.toNat v1]?.getD 0).toNat:Int))] 1 (.recs (α:=UInt8) 0 e8 ([((v0)[Int.toNat v1]?.getD 0)])) ∧ GoodR (.recs (α:=UInt8) 0 e8 ([((v0)[Int.toNat v1]?.getD 0)]))),(decide ((List.length v8 + List.length ([((v0)[Int.toNat v1]?.getD 0)]:List (UInt8))) * (1 + 1) ≤ limit)) = true,(AppOb 0 e8 v8 (List.flatMap e8 ([((v0)[Int.toNat v1]?.getD 0)]:List (UInt8))) (List.length ([((v0)[Int.toNat v1]?.getD 0)]:List (UInt8))) (.recs (α:=UInt8) 0 e8 (v8 ++ ([((v0)[Int.toNat v1]?.getD 0)]:List (UInt8)))) ∧ GoodR (.recs (α:=UInt8) 0 e8 (v8 ++ ([((v0)[Int.toNat v1]?.getD 0)]:List (UInt8)))))]) (by kernel_rfl) (AllP.cons (mkOb (All8.cells (ns:=[(((v0)[Int.toNat v1]?.getD 0).toNat:Int)]) (.cons rfl .nil)) rfl rfl (good8 _)) (AllP.cons hc3 (AllP.cons (appOb rfl rfl (good8 _)) AllP.nil))) ?_
    refine To.thenN ?_
    refine Wp.region hΓ [] [] [] [0,1,7,8] [82] (K':=[(0,.str v0),(1,.val (.int .i64 (IntKind.wrap .i64 (v1 + 2)))),(7,.val (.int .u8 v7)),(8,.row 82)]) (L':=[(82,5,[.rowc false (α:=UInt8) 0 e8 (v8 ++ ([((v0)[Int.toNat v1]?.getD 0)]:List (UInt8)))])]) (ob:=[]) (by kernel_rfl) AllP.nil ?_
    refine To.blockN ?_
    refine To.blockN ?_
    refine To.keep (kk:=[0,1,7,8]) (kl:=[82]) (K':=[(0,.str v0),(1,.val (.int .i64 (IntKind.wrap .i64 (v1 + 2)))),(7,.val (.int .u8 v7)),(8,.row 82)]) (L':=[(82,5,[.rowc false (α:=UInt8) 0 e8 (v8 ++ ([((v0)[Int.toNat v1]?.getD 0)]:List (UInt8)))])]) (by kernel_rfl) (by kernel_rfl) ?_
    refine To.pre (St.rename 82 1008 (by decide) (K':=[(0,.str v0),(1,.val (.int .i64 (IntKind.wrap .i64 (v1 + 2)))),(7,.val (.int .u8 v7)),(8,.row 1008)]) (L':=[(1008,5,[.rowc false (α:=UInt8) 0 e8 (v8 ++ ([((v0)[Int.toNat v1]?.getD 0)]:List (UInt8)))])]) (by kernel_rfl) (by kernel_rfl) (by kernel_rfl)) ?_
    refine To.keep (kk:=[0,1,7,8]) (kl:=[1008]) (K':=[(0,.str v0),(1,.val (.int .i64 (IntKind.wrap .i64 (v1 + 2)))),(7,.val (.int .u8 v7)),(8,.row 1008)]) (L':=[(1008,5,[.rowc false (α:=UInt8) 0 e8 (v8 ++ ([((v0)[Int.toNat v1]?.getD 0)]:List (UInt8)))])]) (by kernel_rfl) (by kernel_rfl) ?_
    refine To.again ?_
    exact ih (IntKind.wrap .i64 (v1 + 2)) (v8 ++ ([((v0)[Int.toNat v1]?.getD 0)]:List (UInt8))) _ h hQ
   ·replace h:=if_f hb h
    refine Wp.seq ?_
    refine Wp.region hΓ [] [] [] [0,1,7,8,9,85] [1008] (K':=[(0,.str v0),(1,.val (.int .i64 v1)),(7,.val (.int .u8 v7)),(8,.row 1008),(9,.val (.int .u8 (((v0)[Int.toNat v1]?.getD 0).toNat:Int))),(85,.val (.bool ((((v0)[Int.toNat v1]?.getD 0).toNat:Int) == v7)))]) (L':=[(1008,5,[.rowc false (α:=UInt8) 0 e8 v8])]) (ob:=[]) (by kernel_rfl) AllP.nil ?_
    refine To.thenN ?_
    refine Wp.cond (b:=((((v0)[Int.toNat v1]?.getD 0).toNat:Int) == v7)) (by kernel_rfl) (fun hb=>?_) (fun hb=>?_)
    ·replace h:=if_t hb h
     refine Wp.seq ?_
     refine Wp.region hΓ [] [(1,.str v8)] [] [4,5,6] [] (K':=[(4,.str v8),(5,.val (.int .i64 (IntKind.wrap .i64 (v1 + 1)))),(6,.val (.int .i64 0))]) (L':=[]) (ob:=[(true = true → StrOb (List.flatMap e8 v8) (.str v8))]) (by kernel_rfl) (AllP.cons (fun _=>strOb (flat8 _)) AllP.nil) ?_
     refine To.thenN ?_
     refine Wp.ret ?_
     refine To.blockR ?_
     refine To.blockR ?_
     refine To.thenR ?_
     refine To.keep (kk:=[4,5,6]) (kl:=[]) (K':=[(4,.str v8),(5,.val (.int .i64 (IntKind.wrap .i64 (v1 + 1)))),(6,.val (.int .i64 0))]) (L':=[]) (by kernel_rfl) (by kernel_rfl) ?_
     cases h
     exact hQ
    ·replace h:=if_f hb h
     refine Wp.seq ?_
     refine Wp.region hΓ [] [] [] [0,1,7,8,9,93] [1008] (K':=[(0,.str v0),(1,.val (.int .i64 v1)),(7,.val (.int .u8 v7)),(8,.row 1008),(9,.val (.int .u8 (((v0)[Int.toNat v1]?.getD 0).toNat:Int))),(93,.val (.bool (bif ((((v0)[Int.toNat v1]?.getD 0).toNat:Int) == 92) then (v7 == 34) else false)))]) (L':=[(1008,5,[.rowc false (α:=UInt8) 0 e8 v8])]) (ob:=[]) (by kernel_rfl) AllP.nil ?_
     refine To.thenN ?_
     refine Wp.cond (b:=(bif ((((v0)[Int.toNat v1]?.getD 0).toNat:Int) == 92) then (v7 == 34) else false)) (by kernel_rfl) (fun hb=>?_) (fun hb=>?_)
     ·replace h:=if_t hb h
      refine Wp.seq ?_
      obtain ⟨hc7,h⟩:=chk_of h
      obtain ⟨r4,hr4,h⟩:=bind_of h
      refine Wp.region hΓ [] [(3,.tup [.val (.int .u8 r4.1),.val (.int .i64 r4.2)])] [] [0,1,7,8,10,11] [1008] (K':=[(0,.str v0),(1,.val (.int .i64 v1)),(7,.val (.int .u8 v7)),(8,.row 1008),(10,.val (.int .u8 r4.1)),(11,.val (.int .i64 r4.2))]) (L':=[(1008,5,[.rowc false (α:=UInt8) 0 e8 v8])]) (ob:=[(decide (0 ≤ v1 ∧ v1 ≤ (List.length v0:Int))) = true,(true = true → CX Tryd.prog 133 [.str (List.drop (Int.toNat v1) v0)] (.tup [.val (.int .u8 r4.1),.val (.int .i64 r4.2)]))]) (by kernel_rfl) (AllP.cons hc7 (AllP.cons (fun _=>cx (ok_quote_escape n (List.drop (Int.toNat v1) v0) _ hr4)) AllP.nil)) ?_
      refine To.thenN ?_
      refine Wp.seq ?_
      refine Wp.seq ?_
      refine Wp.region hΓ [] [] [] [0,1,7,8,10,11,108] [1008] (K':=[(0,.str v0),(1,.val (.int .i64 v1)),(7,.val (.int .u8 v7)),(8,.row 1008),(10,.val (.int .u8 r4.1)),(11,.val (.int .i64 r4.2)),(108,.val (.bool (r4.2 == 0)))]) (L':=[(1008,5,[.rowc false (α:=UInt8) 0 e8 v8])]) (ob:=[]) (by kernel_rfl) AllP.nil ?_
      refine To.thenN ?_
      refine Wp.cond (b:=(r4.2 == 0)) (by kernel_rfl) (fun hb=>?_) (fun hb=>?_)
      ·replace h:=if_t hb h
       refine Wp.seq ?_
       refine Wp.region hΓ [] [] [] [4,5,6] [] (K':=[(4,.str []),(5,.val (.int .i64 0)),(6,.val (.int .i64 3))]) (L':=[]) (ob:=[]) (by kernel_rfl) AllP.nil ?_
       refine To.thenN ?_
       refine Wp.ret ?_
       refine To.thenR ?_
       refine To.blockR ?_
       refine To.blockR ?_
       refine To.thenR ?_
       refine To.keep (kk:=[4,5,6]) (kl:=[]) (K':=[(4,.str []),(5,.val (.int .i64 0)),(6,.val (.int .i64 3))]) (L':=[]) (by kernel_rfl) (by kernel_rfl) ?_
       cases h
       exact hQ
      ·replace h:=if_f hb h
       refine Wp.skip ?_
       refine To.thenN ?_
       refine Wp.seq ?_
       obtain ⟨u5,h⟩:=chk_of h
       obtain ⟨hc6,h⟩:=chk_of h
       refine Wp.region hΓ [] [(2,.recs (α:=UInt8) 0 e8 [(UInt8.ofNat (Int.toNat r4.1))]),(3,.recs (α:=UInt8) 0 e8 (v8 ++ ([(UInt8.ofNat (Int.toNat r4.1))]:List (UInt8))))] [] [0,1,7,8,11] [112] (K':=[(0,.str v0),(1,.val (.int .i64 v1)),(7,.val (.int .u8 v7)),(8,.row 112),(11,.val (.int .i64 r4.2))]) (L':=[(112,5,[.rowc false (α:=UInt8) 0 e8 (v8 ++ ([(UInt8.ofNat (Int.toNat r4.1))]:List (UInt8)))])]) (ob:=[(MkOb 1 [.val (.int .u8 r4.1)] 1 (.recs (α:=UInt8) 0 e8 [(UInt8.ofNat (Int.toNat r4.1))]) ∧ GoodR (.recs (α:=UInt8) 0 e8 [(UInt8.ofNat (Int.toNat r4.1))])),(decide ((List.length v8 + List.length ([(UInt8.ofNat (Int.toNat r4.1))]:List (UInt8))) * (1 + 1) ≤ limit)) = true,(AppOb 0 e8 v8 (List.flatMap e8 ([(UInt8.ofNat (Int.toNat r4.1))]:List (UInt8))) (List.length ([(UInt8.ofNat (Int.toNat r4.1))]:List (UInt8))) (.recs (α:=UInt8) 0 e8 (v8 ++ ([(UInt8.ofNat (Int.toNat r4.1))]:List (UInt8)))) ∧ GoodR (.recs (α:=UInt8) 0 e8 (v8 ++ ([(UInt8.ofNat (Int.toNat r4.1))]:List (UInt8)))))]) (by kernel_rfl) (AllP.cons (mkOb (All8.cells (ns:=[r4.1]) (.cons (u8_of u5) .nil)) rfl rfl (good8 _)) (AllP.cons hc6 (AllP.cons (appOb rfl rfl (good8 _)) AllP.nil))) ?_
       refine To.thenN ?_
       refine Wp.region hΓ [] [] [] [0,1,7,8] [112] (K':=[(0,.str v0),(1,.val (.int .i64 (IntKind.wrap .i64 (v1 + r4.2)))),(7,.val (.int .u8 v7)),(8,.row 112)]) (L':=[(112,5,[.rowc false (α:=UInt8) 0 e8 (v8 ++ ([(UInt8.ofNat (Int.toNat r4.1))]:List (UInt8)))])]) (ob:=[]) (by kernel_rfl) AllP.nil ?_
       refine To.blockN ?_
       refine To.blockN ?_
       refine To.keep (kk:=[0,1,7,8]) (kl:=[112]) (K':=[(0,.str v0),(1,.val (.int .i64 (IntKind.wrap .i64 (v1 + r4.2)))),(7,.val (.int .u8 v7)),(8,.row 112)]) (L':=[(112,5,[.rowc false (α:=UInt8) 0 e8 (v8 ++ ([(UInt8.ofNat (Int.toNat r4.1))]:List (UInt8)))])]) (by kernel_rfl) (by kernel_rfl) ?_
       refine To.pre (St.rename 112 1008 (by decide) (K':=[(0,.str v0),(1,.val (.int .i64 (IntKind.wrap .i64 (v1 + r4.2)))),(7,.val (.int .u8 v7)),(8,.row 1008)]) (L':=[(1008,5,[.rowc false (α:=UInt8) 0 e8 (v8 ++ ([(UInt8.ofNat (Int.toNat r4.1))]:List (UInt8)))])]) (by kernel_rfl) (by kernel_rfl) (by kernel_rfl)) ?_
       refine To.keep (kk:=[0,1,7,8]) (kl:=[1008]) (K':=[(0,.str v0),(1,.val (.int .i64 (IntKind.wrap .i64 (v1 + r4.2)))),(7,.val (.int .u8 v7)),(8,.row 1008)]) (L':=[(1008,5,[.rowc false (α:=UInt8) 0 e8 (v8 ++ ([(UInt8.ofNat (Int.toNat r4.1))]:List (UInt8)))])]) (by kernel_rfl) (by kernel_rfl) ?_
       refine To.again ?_
       exact ih (IntKind.wrap .i64 (v1 + r4.2)) (v8 ++ ([(UInt8.ofNat (Int.toNat r4.1))]:List (UInt8))) _ h hQ
     ·replace h:=if_f hb h
      refine Wp.seq ?_
      obtain ⟨hc8,h⟩:=chk_of h
      refine Wp.region hΓ [] [(2,.recs (α:=UInt8) 0 e8 ([((v0)[Int.toNat v1]?.getD 0)])),(3,.recs (α:=UInt8) 0 e8 (v8 ++ ([((v0)[Int.toNat v1]?.getD 0)]:List (UInt8))))] [] [0,1,7,8] [53] (K':=[(0,.str v0),(1,.val (.int .i64 v1)),(7,.val (.int .u8 v7)),(8,.row 53)]) (L':=[(53,5,[.rowc false (α:=UInt8) 0 e8 (v8 ++ ([((v0)[Int.toNat v1]?.getD 0)]:List (UInt8)))])]) (ob:=[(MkOb 1 [.val (.int .u8 (((v0)[Int.toNat v1]?.getD 0).toNat:Int))] 1 (.recs (α:=UInt8) 0 e8 ([((v0)[Int.toNat v1]?.getD 0)])) ∧ GoodR (.recs (α:=UInt8) 0 e8 ([((v0)[Int.toNat v1]?.getD 0)]))),(decide ((List.length v8 + List.length ([((v0)[Int.toNat v1]?.getD 0)]:List (UInt8))) * (1 + 1) ≤ limit)) = true,(AppOb 0 e8 v8 (List.flatMap e8 ([((v0)[Int.toNat v1]?.getD 0)]:List (UInt8))) (List.length ([((v0)[Int.toNat v1]?.getD 0)]:List (UInt8))) (.recs (α:=UInt8) 0 e8 (v8 ++ ([((v0)[Int.toNat v1]?.getD 0)]:List (UInt8)))) ∧ GoodR (.recs (α:=UInt8) 0 e8 (v8 ++ ([((v0)[Int.toNat v1]?.getD 0)]:List (UInt8)))))]) (by kernel_rfl) (AllP.cons (mkOb (All8.cells (ns:=[(((v0)[Int.toNat v1]?.getD 0).toNat:Int)]) (.cons rfl .nil)) rfl rfl (good8 _)) (AllP.cons hc8 (AllP.cons (appOb rfl rfl (good8 _)) AllP.nil))) ?_
      refine To.thenN ?_
      refine Wp.region hΓ [] [] [] [0,1,7,8] [53] (K':=[(0,.str v0),(1,.val (.int .i64 (IntKind.wrap .i64 (v1 + 1)))),(7,.val (.int .u8 v7)),(8,.row 53)]) (L':=[(53,5,[.rowc false (α:=UInt8) 0 e8 (v8 ++ ([((v0)[Int.toNat v1]?.getD 0)]:List (UInt8)))])]) (ob:=[]) (by kernel_rfl) AllP.nil ?_
      refine To.blockN ?_
      refine To.blockN ?_
      refine To.keep (kk:=[0,1,7,8]) (kl:=[53]) (K':=[(0,.str v0),(1,.val (.int .i64 (IntKind.wrap .i64 (v1 + 1)))),(7,.val (.int .u8 v7)),(8,.row 53)]) (L':=[(53,5,[.rowc false (α:=UInt8) 0 e8 (v8 ++ ([((v0)[Int.toNat v1]?.getD 0)]:List (UInt8)))])]) (by kernel_rfl) (by kernel_rfl) ?_
      refine To.pre (St.rename 53 1008 (by decide) (K':=[(0,.str v0),(1,.val (.int .i64 (IntKind.wrap .i64 (v1 + 1)))),(7,.val (.int .u8 v7)),(8,.row 1008)]) (L':=[(1008,5,[.rowc false (α:=UInt8) 0 e8 (v8 ++ ([((v0)[Int.toNat v1]?.getD 0)]:List (UInt8)))])]) (by kernel_rfl) (by kernel_rfl) (by kernel_rfl)) ?_
      refine To.keep (kk:=[0,1,7,8]) (kl:=[1008]) (K':=[(0,.str v0),(1,.val (.int .i64 (IntKind.wrap .i64 (v1 + 1)))),(7,.val (.int .u8 v7)),(8,.row 1008)]) (L':=[(1008,5,[.rowc false (α:=UInt8) 0 e8 (v8 ++ ([((v0)[Int.toNat v1]?.getD 0)]:List (UInt8)))])]) (by kernel_rfl) (by kernel_rfl) ?_
      refine To.again ?_
      exact ih (IntKind.wrap .i64 (v1 + 1)) (v8 ++ ([((v0)[Int.toNat v1]?.getD 0)]:List (UInt8))) _ h hQ
  ·replace h:=if_f hb h
   refine Wp.exit ?_
   refine To.thenX ?_
   refine To.thenX ?_
   refine To.keep (kk:=[]) (kl:=[]) (K':=[]) (L':=[]) (by kernel_rfl) (by kernel_rfl) ?_
   cases h
   exact hQ
def quote_Scan (n:Nat) (a0:List UInt8) (a1:Int):Option ((List UInt8) × Int × Int) :=
 if ((!((bif (decide (a1 < 0)) then true else (decide (a1 ≥ (List.length a0:Int)))) == false) || decide (0 ≤ a1 ∧ a1 < (List.length a0:Int)))) = true then (if ((!((((((a0)[Int.toNat a1]?.getD 0).toNat:Int) != 34) == true) && ((bif (decide (a1 < 0)) then true else (decide (a1 ≥ (List.length a0:Int)))) == false)) || decide (0 ≤ a1 ∧ a1 < (List.length a0:Int)))) = true then (lett ((bif (bif (decide (a1 < 0)) then true else (decide (a1 ≥ (List.length a0:Int)))) then true else (bif ((((a0)[Int.toNat a1]?.getD 0).toNat:Int) != 34) then ((((a0)[Int.toNat a1]?.getD 0).toNat:Int) != 39) else false)):Bool) fun x1 =>
 if x1 = true then (some ([],0,2))
 else (if (decide (0 ≤ a1 ∧ a1 < (List.length a0:Int))) = true then ((quote_Scan_l1 n a0 (((a0)[Int.toNat a1]?.getD 0).toNat:Int) n (IntKind.wrap .i64 (a1 + 1)) ([]:List (UInt8))).bind fun o2 =>
 (Sum.elim (fun o2=>some ([],0,3)) (fun o2=>some (o2.1,o2.2.1,o2.2.2))) o2) else none)) else none) else none
theorem ok_quote_Scan (n:Nat) (a0:List UInt8) (a1:Int) (r:(List UInt8) × Int × Int) (h:quote_Scan n a0 a1 = some r):CallsX Tryd.prog 101 [.str a0,.val (.int .i64 a1)] (.tup [.str r.1,.val (.int .i64 r.2.1),.val (.int .i64 r.2.2)]):=by
 unfold quote_Scan at h
 refine callsX_of (fn:=Tryd.f101) (by kernel_rfl) rfl (by kernel_rfl) (Nat.le_of_ble_eq_true (by kernel_rfl)) fun F0 w0 _=>?_
 refine Wp.keep (kk:=[0,1]) (kl:=[]) (K':=[(0,.str a0),(1,.val (.int .i64 a1))]) (L':=[]) (by kernel_rfl) (by kernel_rfl) ?_
 refine Wp.seq ?_
 refine Wp.region hΓ [] [] [] [0,1] [] (K':=[(0,.str a0),(1,.val (.int .i64 a1))]) (L':=[]) (ob:=[]) (by kernel_rfl) AllP.nil ?_
 refine To.thenN ?_
 refine Wp.seq ?_
 refine Wp.seq ?_
 obtain ⟨hc4,h⟩:=chk_of h
 obtain ⟨hc5,h⟩:=chk_of h
 obtain ⟨x1,hx1,h⟩:=lett_of h
 refine Wp.region hΓ [] [] [] [0,1,31] [] (K':=[(0,.str a0),(1,.val (.int .i64 a1)),(31,.val (.bool (bif (bif (decide (a1 < 0)) then true else (decide (a1 ≥ (List.length a0:Int)))) then true else (bif ((((a0)[Int.toNat a1]?.getD 0).toNat:Int) != 34) then ((((a0)[Int.toNat a1]?.getD 0).toNat:Int) != 39) else false))))]) (L':=[]) (ob:=[(!((bif (decide (a1 < 0)) then true else (decide (a1 ≥ (List.length a0:Int)))) == false) || decide (0 ≤ a1 ∧ a1 < (List.length a0:Int))) = true,(!((((((a0)[Int.toNat a1]?.getD 0).toNat:Int) != 34) == true) && ((bif (decide (a1 < 0)) then true else (decide (a1 ≥ (List.length a0:Int)))) == false)) || decide (0 ≤ a1 ∧ a1 < (List.length a0:Int))) = true]) (by kernel_rfl) (AllP.cons hc4 (AllP.cons hc5 AllP.nil)) ?_
 refine To.eq (K':=[(0,.str a0),(1,.val (.int .i64 a1)),(31,.val (.bool x1))]) (L':=[]) (by cases hx1; rfl) (by cases hx1; rfl) ?_
 refine To.thenN ?_
 refine Wp.cond (b:=x1) (by kernel_rfl) (fun hb=>?_) (fun hb=>?_)
 ·replace h:=if_t hb h
  refine Wp.seq ?_
  refine Wp.region hΓ [] [] [] [4,5,6] [] (K':=[(4,.str []),(5,.val (.int .i64 0)),(6,.val (.int .i64 2))]) (L':=[]) (ob:=[]) (by kernel_rfl) AllP.nil ?_
  refine To.thenN ?_
  refine Wp.ret ?_
  refine To.thenR ?_
  refine To.keep (kk:=[4,5,6]) (kl:=[]) (K':=[(4,.str []),(5,.val (.int .i64 0)),(6,.val (.int .i64 2))]) (L':=[]) (by kernel_rfl) (by kernel_rfl) ?_
  cases h
  exact To.done hΓ (by kernel_rfl)
 ·replace h:=if_f hb h
  refine Wp.skip ?_
  refine To.thenN ?_
  refine Wp.seq ?_
  obtain ⟨hc3,h⟩:=chk_of h
  refine Wp.region hΓ [] [] [] [0,1,7] [] (K':=[(0,.str a0),(1,.val (.int .i64 a1)),(7,.val (.int .u8 (((a0)[Int.toNat a1]?.getD 0).toNat:Int)))]) (L':=[]) (ob:=[(decide (0 ≤ a1 ∧ a1 < (List.length a0:Int))) = true]) (by kernel_rfl) (AllP.cons hc3 AllP.nil) ?_
  refine To.thenN ?_
  refine Wp.seq ?_
  refine Wp.region hΓ [] [] [] [0,1,7,8] [] (K':=[(0,.str a0),(1,.val (.int .i64 a1)),(7,.val (.int .u8 (((a0)[Int.toNat a1]?.getD 0).toNat:Int))),(8,.val (.slice none 0 0))]) (L':=[]) (ob:=[]) (by kernel_rfl) AllP.nil ?_
  refine To.thenN ?_
  refine Wp.seq ?_
  refine Wp.seq ?_
  refine Wp.region hΓ [] [] [] [0,1,7,8] [] (K':=[(0,.str a0),(1,.val (.int .i64 (IntKind.wrap .i64 (a1 + 1)))),(7,.val (.int .u8 (((a0)[Int.toNat a1]?.getD 0).toNat:Int))),(8,.val (.slice none 0 0))]) (L':=[]) (ob:=[]) (by kernel_rfl) AllP.nil ?_
  refine To.thenN ?_
  refine Wp.block ?_
  obtain ⟨o2,ho2,h⟩:=bind_of h
  refine Wp.keep (kk:=[0,1,7,8]) (kl:=[]) (K':=[(0,.str a0),(1,.val (.int .i64 (IntKind.wrap .i64 (a1 + 1)))),(7,.val (.int .u8 (((a0)[Int.toNat a1]?.getD 0).toNat:Int))),(8,.val (.slice none 0 0))]) (L':=[]) (by kernel_rfl) (by kernel_rfl) ?_
  refine Wp.pre (St.vacant (t:=8) (k:=1008) (e:=5) (K':=[(0,.str a0),(1,.val (.int .i64 (IntKind.wrap .i64 (a1 + 1)))),(7,.val (.int .u8 (((a0)[Int.toNat a1]?.getD 0).toNat:Int))),(8,.row 1008)]) (good8 _) (by decide) (by kernel_rfl) (by kernel_rfl)) ?_
  refine Wp.keep (kk:=[0,1,7,8]) (kl:=[1008]) (K':=[(0,.str a0),(1,.val (.int .i64 (IntKind.wrap .i64 (a1 + 1)))),(7,.val (.int .u8 (((a0)[Int.toNat a1]?.getD 0).toNat:Int))),(8,.row 1008)]) (L':=[(1008,5,[.rowc false (α:=UInt8) 0 e8 []])]) (by kernel_rfl) (by kernel_rfl) ?_
  refine Wp.loopL ?_
  refine ok_quote_Scan_l1 n a0 (((a0)[Int.toNat a1]?.getD 0).toNat:Int) n (IntKind.wrap .i64 (a1 + 1)) ([]:List (UInt8)) o2 ho2 ?_
  rcases o2 with o2 | o2
  ·replace h:=sum_l h
   refine To.blockX ?_
   refine To.thenN ?_
   refine Wp.seq ?_
   refine Wp.region hΓ [] [] [] [4,5,6] [] (K':=[(4,.str []),(5,.val (.int .i64 0)),(6,.val (.int .i64 3))]) (L':=[]) (ob:=[]) (by kernel_rfl) AllP.nil ?_
   refine To.thenN ?_
   refine Wp.ret ?_
   refine To.keep (kk:=[4,5,6]) (kl:=[]) (K':=[(4,.str []),(5,.val (.int .i64 0)),(6,.val (.int .i64 3))]) (L':=[]) (by kernel_rfl) (by kernel_rfl) ?_
   cases h
   exact To.done hΓ (by kernel_rfl)
  ·replace h:=sum_r h
   refine To.blockR ?_
   refine To.thenR ?_
   refine To.keep (kk:=[4,5,6]) (kl:=[]) (K':=[(4,.str o2.1),(5,.val (.int .i64 o2.2.1)),(6,.val (.int .i64 o2.2.2))]) (L':=[]) (by kernel_rfl) (by kernel_rfl) ?_
   cases h
   exact To.done hΓ (by kernel_rfl)
def env_value_j1 (n:Nat) (v0:List UInt8) (v8:Int) (v56:Bool):Option ((List UInt8)) :=
 if v56 = true then (if (decide (0 ≤ v8 ∧ v8 ≤ (List.length v0:Int))) = true then (some (List.take (Int.toNat v8) v0)) else none)
 else some v0
theorem ok_env_value_j1 (n:Nat) (v0:List UInt8) (v8:Int) (v56:Bool) (o:(List UInt8)) (h:env_value_j1 n v0 v8 v56 = some o) {F0:Fz} {w0:Pt Tryd.prog} {Q:Exit → Act → World → Prop} (hQ:To 79 F0 w0 [(0,.str o)] [] .normal Q):Wp Tryd.prog 79 F0 w0 [(0,.str v0),(8,.val (.int .i64 v8)),(56,.val (.bool v56))] [] (cB (cB (cA (cB (cB (cF Tryd.f62)))))) Q:=by
 unfold env_value_j1 at h
 refine Wp.cond (b:=v56) (by kernel_rfl) (fun hb=>?_) (fun hb=>?_)
 ·replace h:=if_t hb h
  obtain ⟨hc7,h⟩:=chk_of h
  refine Wp.region hΓ [] [] [] [0] [] (K':=[(0,.str (List.take (Int.toNat v8) v0))]) (L':=[]) (ob:=[(decide (0 ≤ v8 ∧ v8 ≤ (List.length v0:Int))) = true]) (by kernel_rfl) (AllP.cons hc7 AllP.nil) ?_
  refine To.keep (kk:=[0]) (kl:=[]) (K':=[(0,.str (List.take (Int.toNat v8) v0))]) (L':=[]) (by kernel_rfl) (by kernel_rfl) ?_
  cases h
  exact hQ
 ·replace h:=if_f hb h
  refine Wp.skip ?_
  refine To.keep (kk:=[0]) (kl:=[]) (K':=[(0,.str v0)]) (L':=[]) (by kernel_rfl) (by kernel_rfl) ?_
  cases h
  exact hQ
def env_value_l2 (n:Nat) (v0:List UInt8) (v63:Int):Nat → Int → Option (Sum (Unit) ((List UInt8) × Bool))
 | 0,_=>none
 | k + 1,v64=>if (decide (v64 < v63)) = true then (if (decide (0 ≤ v64 ∧ v64 < (List.length v0:Int))) = true then (if ((!((decide ((((v0)[Int.toNat v64]?.getD 0).toNat:Int) < 32)) == false) || decide (0 ≤ v64 ∧ v64 < (List.length v0:Int)))) = true then (lett ((bif (decide ((((v0)[Int.toNat v64]?.getD 0).toNat:Int) < 32)) then true else ((((v0)[Int.toNat v64]?.getD 0).toNat:Int) == 127)):Bool) fun x9 =>
 if x9 = true then (some (.inr ([],false)))
 else (env_value_l2 n v0 v63 k (IntKind.wrap .i64 (v64 + 1)))) else none) else none)
 else (some (.inl ()))
theorem ok_env_value_l2 (n:Nat) (v0:List UInt8) (v63:Int) {F0:Fz} {w0:Pt Tryd.prog} {Q:Exit → Act → World → Prop} (k:Nat):∀ (v64:Int) (o:Sum (Unit) ((List UInt8) × Bool)),env_value_l2 n v0 v63 k v64 = some o → (Sum.elim (fun s=>To 79 F0 w0 [(0,.str v0)] [] (.exit 0) Q) (fun s=>To 79 F0 w0 [(2,.str s.1),(3,.val (.bool s.2))] [] .ret Q)) o → WL Tryd.prog 79 F0 w0 [(0,.str v0),(63,.val (.int .i64 v63)),(64,.val (.int .i64 v64))] [] (cI (cI (cB (cA (cB (cB (cB (cB (cF Tryd.f62))))))))) Q:=by
 induction k with
 | zero=>intro v64 o h; cases h
 | succ k ih =>
  intro v64 o h hQ
  rw [env_value_l2] at h
  refine WL.round ?_
  refine Wp.seq ?_
  refine Wp.region hΓ [] [] [] [0,63,64,65] [] (K':=[(0,.str v0),(63,.val (.int .i64 v63)),(64,.val (.int .i64 v64)),(65,.val (.bool (decide (v64 < v63))))]) (L':=[]) (ob:=[]) (by kernel_rfl) AllP.nil ?_
  refine To.thenN ?_
  refine Wp.seq ?_
  refine Wp.cond (b:=(decide (v64 < v63))) (by kernel_rfl) (fun hb=>?_) (fun hb=>?_)
  ·replace h:=if_t hb h
   refine Wp.skip ?_
   refine To.thenN ?_
   refine Wp.seq ?_
   refine Wp.block ?_
   refine Wp.seq ?_
   refine Wp.region hΓ [] [] [] [0,9,63,64] [] (K':=[(0,.str v0),(9,.val (.int .i64 v64)),(63,.val (.int .i64 v63)),(64,.val (.int .i64 v64))]) (L':=[]) (ob:=[]) (by kernel_rfl) AllP.nil ?_
   refine To.thenN ?_
   refine Wp.seq ?_
   obtain ⟨hc10,h⟩:=chk_of h
   obtain ⟨hc11,h⟩:=chk_of h
   obtain ⟨x9,hx9,h⟩:=lett_of h
   refine Wp.region hΓ [] [] [] [0,63,64,76] [] (K':=[(0,.str v0),(63,.val (.int .i64 v63)),(64,.val (.int .i64 v64)),(76,.val (.bool (bif (decide ((((v0)[Int.toNat v64]?.getD 0).toNat:Int) < 32)) then true else ((((v0)[Int.toNat v64]?.getD 0).toNat:Int) == 127))))]) (L':=[]) (ob:=[(decide (0 ≤ v64 ∧ v64 < (List.length v0:Int))) = true,(!((decide ((((v0)[Int.toNat v64]?.getD 0).toNat:Int) < 32)) == false) || decide (0 ≤ v64 ∧ v64 < (List.length v0:Int))) = true]) (by kernel_rfl) (AllP.cons hc10 (AllP.cons hc11 AllP.nil)) ?_
   refine To.eq (K':=[(0,.str v0),(63,.val (.int .i64 v63)),(64,.val (.int .i64 v64)),(76,.val (.bool x9))]) (L':=[]) (by cases hx9; rfl) (by cases hx9; rfl) ?_
   refine To.thenN ?_
   refine Wp.cond (b:=x9) (by kernel_rfl) (fun hb=>?_) (fun hb=>?_)
   ·replace h:=if_t hb h
    refine Wp.seq ?_
    refine Wp.region hΓ [] [] [] [2,3] [] (K':=[(2,.str []),(3,.val (.bool false))]) (L':=[]) (ob:=[]) (by kernel_rfl) AllP.nil ?_
    refine To.thenN ?_
    refine Wp.ret ?_
    refine To.blockR ?_
    refine To.thenR ?_
    refine To.thenR ?_
    refine To.keep (kk:=[2,3]) (kl:=[]) (K':=[(2,.str []),(3,.val (.bool false))]) (L':=[]) (by kernel_rfl) (by kernel_rfl) ?_
    cases h
    exact hQ
   ·replace h:=if_f hb h
    refine Wp.skip ?_
    refine To.blockN ?_
    refine To.thenN ?_
    refine Wp.region hΓ [] [] [] [0,63,64] [] (K':=[(0,.str v0),(63,.val (.int .i64 v63)),(64,.val (.int .i64 (IntKind.wrap .i64 (v64 + 1))))]) (L':=[]) (ob:=[]) (by kernel_rfl) AllP.nil ?_
    refine To.keep (kk:=[0,63,64]) (kl:=[]) (K':=[(0,.str v0),(63,.val (.int .i64 v63)),(64,.val (.int .i64 (IntKind.wrap .i64 (v64 + 1))))]) (L':=[]) (by kernel_rfl) (by kernel_rfl) ?_
    refine To.again ?_
    exact ih (IntKind.wrap .i64 (v64 + 1)) _ h hQ
  ·replace h:=if_f hb h
   refine Wp.exit ?_
   refine To.thenX ?_
   refine To.thenX ?_
   refine To.keep (kk:=[0]) (kl:=[]) (K':=[(0,.str v0)]) (L':=[]) (by kernel_rfl) (by kernel_rfl) ?_
   cases h
   exact hQ
def env_value (n:Nat) (a0:List UInt8):Option ((List UInt8) × Bool) :=
 if ((!((!(a0 == [])) == true) || decide (0 ≤ (0:Int) ∧ (0:Int) < (List.length a0:Int)))) = true then (if ((!((((((a0)[Int.toNat 0]?.getD 0).toNat:Int) == 34) == false) && ((!(a0 == [])) == true)) || decide (0 ≤ (0:Int) ∧ (0:Int) < (List.length a0:Int)))) = true then (lett ((bif (!(a0 == [])) then (bif ((((a0)[Int.toNat 0]?.getD 0).toNat:Int) == 34) then true else ((((a0)[Int.toNat 0]?.getD 0).toNat:Int) == 39)) else false):Bool) fun x1 =>
 if x1 = true then ((quote_Scan n a0 0).bind fun r2 =>
 if (decide (0 ≤ r2.2.1 ∧ r2.2.1 ≤ (List.length a0:Int))) = true then (if ((!((((Lib.trimLeftB (List.drop (Int.toNat r2.2.1) a0) 32) == []) == false) && ((r2.2.2 == 0) == true)) || decide (0 ≤ (0:Int) ∧ (0:Int) < (List.length (Lib.trimLeftB (List.drop (Int.toNat r2.2.1) a0) 32):Int)))) = true then (lett ((bif (r2.2.2 == 0) then (bif ((Lib.trimLeftB (List.drop (Int.toNat r2.2.1) a0) 32) == []) then true else (bif (((((Lib.trimLeftB (List.drop (Int.toNat r2.2.1) a0) 32))[Int.toNat 0]?.getD 0).toNat:Int) == 35) then (decide ((List.length (Lib.trimLeftB (List.drop (Int.toNat r2.2.1) a0) 32):Int) < (IntKind.wrap .i64 ((List.length a0:Int) - r2.2.1)))) else false)) else false):Bool) fun x3 =>
 some (r2.1,x3)) else none) else none)
 else (if (decide (List.length a0 < 4294967281)) = true then ((env_value_j1 n a0 (Lib.index a0 ([32,35]:List UInt8)) (decide ((Lib.index a0 ([32,35]:List UInt8)) ≥ 0))).bind fun o7 =>
 if (decide (List.length o7 < 4294967281)) = true then ((env_value_l2 n (Lib.trimRightB o7 32) (List.length (Lib.trimRightB o7 32):Int) n 0).bind fun o9 =>
 (Sum.elim (fun o9=>some ((Lib.trimRightB o7 32),true)) (fun o9=>some (o9.1,o9.2))) o9) else none) else none)) else none) else none
theorem ok_env_value (n:Nat) (a0:List UInt8) (r:(List UInt8) × Bool) (h:env_value n a0 = some r):CallsX Tryd.prog 62 [.str a0] (.tup [.str r.1,.val (.bool r.2)]):=by
 unfold env_value at h
 refine callsX_of (fn:=Tryd.f62) (by kernel_rfl) rfl (by kernel_rfl) (Nat.le_of_ble_eq_true (by kernel_rfl)) fun F0 w0 _=>?_
 refine Wp.keep (kk:=[0]) (kl:=[]) (K':=[(0,.str a0)]) (L':=[]) (by kernel_rfl) (by kernel_rfl) ?_
 refine Wp.seq ?_
 refine Wp.region hΓ [] [] [] [0] [] (K':=[(0,.str a0)]) (L':=[]) (ob:=[]) (by kernel_rfl) AllP.nil ?_
 refine To.thenN ?_
 refine Wp.seq ?_
 refine Wp.seq ?_
 obtain ⟨hc10,h⟩:=chk_of h
 obtain ⟨hc11,h⟩:=chk_of h
 obtain ⟨x1,hx1,h⟩:=lett_of h
 refine Wp.region hΓ [] [] [] [0,21] [] (K':=[(0,.str a0),(21,.val (.bool (bif (!(a0 == [])) then (bif ((((a0)[Int.toNat 0]?.getD 0).toNat:Int) == 34) then true else ((((a0)[Int.toNat 0]?.getD 0).toNat:Int) == 39)) else false)))]) (L':=[]) (ob:=[(!((!(a0 == [])) == true) || decide (0 ≤ (0:Int) ∧ (0:Int) < (List.length a0:Int))) = true,(!((((((a0)[Int.toNat 0]?.getD 0).toNat:Int) == 34) == false) && ((!(a0 == [])) == true)) || decide (0 ≤ (0:Int) ∧ (0:Int) < (List.length a0:Int))) = true]) (by kernel_rfl) (AllP.cons hc10 (AllP.cons hc11 AllP.nil)) ?_
 refine To.eq (K':=[(0,.str a0),(21,.val (.bool x1))]) (L':=[]) (by cases hx1; rfl) (by cases hx1; rfl) ?_
 refine To.thenN ?_
 refine Wp.cond (b:=x1) (by kernel_rfl) (fun hb=>?_) (fun hb=>?_)
 ·replace h:=if_t hb h
  refine Wp.seq ?_
  obtain ⟨r2,hr2,h⟩:=bind_of h
  refine Wp.region hΓ [] [(1,.tup [.str r2.1,.val (.int .i64 r2.2.1),.val (.int .i64 r2.2.2)])] [] [0,4,5,6] [] (K':=[(0,.str a0),(4,.str r2.1),(5,.val (.int .i64 r2.2.1)),(6,.val (.int .i64 r2.2.2))]) (L':=[]) (ob:=[(true = true → CX Tryd.prog 101 [.str a0,.val (.int .i64 0)] (.tup [.str r2.1,.val (.int .i64 r2.2.1),.val (.int .i64 r2.2.2)]))]) (by kernel_rfl) (AllP.cons (fun _=>cx (ok_quote_Scan n a0 0 _ hr2)) AllP.nil) ?_
  refine To.thenN ?_
  refine Wp.seq ?_
  obtain ⟨hc5,h⟩:=chk_of h
  refine Wp.region hΓ [] [(3,.str (Lib.trimLeftB (List.drop (Int.toNat r2.2.1) a0) 32))] [] [0,4,5,6,7] [] (K':=[(0,.str a0),(4,.str r2.1),(5,.val (.int .i64 r2.2.1)),(6,.val (.int .i64 r2.2.2)),(7,.str (Lib.trimLeftB (List.drop (Int.toNat r2.2.1) a0) 32))]) (L':=[]) (ob:=[(decide (0 ≤ r2.2.1 ∧ r2.2.1 ≤ (List.length a0:Int))) = true,(true = true → CX Tryd.prog 61 [.str (List.drop (Int.toNat r2.2.1) a0),.str [32]] (.str (Lib.trimLeftB (List.drop (Int.toNat r2.2.1) a0) 32)))]) (by kernel_rfl) (AllP.cons hc5 (AllP.cons (fun _=>cx (Sh.trimLeft161 (by decide))) AllP.nil)) ?_
  refine To.thenN ?_
  refine Wp.seq ?_
  obtain ⟨hc4,h⟩:=chk_of h
  obtain ⟨x3,hx3,h⟩:=lett_of h
  refine Wp.region hΓ [] [] [] [2,3] [] (K':=[(2,.str r2.1),(3,.val (.bool (bif (r2.2.2 == 0) then (bif ((Lib.trimLeftB (List.drop (Int.toNat r2.2.1) a0) 32) == []) then true else (bif (((((Lib.trimLeftB (List.drop (Int.toNat r2.2.1) a0) 32))[Int.toNat 0]?.getD 0).toNat:Int) == 35) then (decide ((List.length (Lib.trimLeftB (List.drop (Int.toNat r2.2.1) a0) 32):Int) < (IntKind.wrap .i64 ((List.length a0:Int) - r2.2.1)))) else false)) else false)))]) (L':=[]) (ob:=[(!((((Lib.trimLeftB (List.drop (Int.toNat r2.2.1) a0) 32) == []) == false) && ((r2.2.2 == 0) == true)) || decide (0 ≤ (0:Int) ∧ (0:Int) < (List.length (Lib.trimLeftB (List.drop (Int.toNat r2.2.1) a0) 32):Int))) = true]) (by kernel_rfl) (AllP.cons hc4 AllP.nil) ?_
  refine To.eq (K':=[(2,.str r2.1),(3,.val (.bool x3))]) (L':=[]) (by cases hx3; rfl) (by cases hx3; rfl) ?_
  refine To.thenN ?_
  refine Wp.ret ?_
  refine To.thenR ?_
  refine To.keep (kk:=[2,3]) (kl:=[]) (K':=[(2,.str r2.1),(3,.val (.bool x3))]) (L':=[]) (by kernel_rfl) (by kernel_rfl) ?_
  cases h
  exact To.done hΓ (by kernel_rfl)
 ·replace h:=if_f hb h
  refine Wp.skip ?_
  refine To.thenN ?_
  refine Wp.seq ?_
  refine Wp.seq ?_
  obtain ⟨u6,h⟩:=chk_of h
  refine Wp.region hΓ [] [(1,.val (.int .i64 (Lib.index a0 ([32,35]:List UInt8))))] [] [0,8] [] (K':=[(0,.str a0),(8,.val (.int .i64 (Lib.index a0 ([32,35]:List UInt8))))]) (L':=[]) (ob:=[(true = true → CX Tryd.prog 90 [.str a0,.str [32,35]] (.val (.int .i64 (Lib.index a0 ([32,35]:List UInt8)))))]) (by kernel_rfl) (AllP.cons (fun _=>cx (Sh.index90 u6)) AllP.nil) ?_
  refine To.thenN ?_
  refine Wp.seq ?_
  refine Wp.region hΓ [] [] [] [0,8,56] [] (K':=[(0,.str a0),(8,.val (.int .i64 (Lib.index a0 ([32,35]:List UInt8)))),(56,.val (.bool (decide ((Lib.index a0 ([32,35]:List UInt8)) ≥ 0))))]) (L':=[]) (ob:=[]) (by kernel_rfl) AllP.nil ?_
  refine To.thenN ?_
  obtain ⟨o7,ho7,h⟩:=bind_of h
  refine Wp.keep (kk:=[0,8,56]) (kl:=[]) (K':=[(0,.str a0),(8,.val (.int .i64 (Lib.index a0 ([32,35]:List UInt8)))),(56,.val (.bool (decide ((Lib.index a0 ([32,35]:List UInt8)) ≥ 0))))]) (L':=[]) (by kernel_rfl) (by kernel_rfl) ?_
  refine ok_env_value_j1 n a0 (Lib.index a0 ([32,35]:List UInt8)) (decide ((Lib.index a0 ([32,35]:List UInt8)) ≥ 0)) o7 ho7 ?_
  refine To.thenN ?_
  refine Wp.seq ?_
  obtain ⟨u8,h⟩:=chk_of h
  refine Wp.region hΓ [] [(1,.str (Lib.trimRightB o7 32))] [] [0] [] (K':=[(0,.str (Lib.trimRightB o7 32))]) (L':=[]) (ob:=[(true = true → CX Tryd.prog 102 [.str o7,.str [32]] (.str (Lib.trimRightB o7 32)))]) (by kernel_rfl) (AllP.cons (fun _=>cx (Sh.trimRight1102 (by decide) u8)) AllP.nil) ?_
  refine To.thenN ?_
  refine Wp.seq ?_
  refine Wp.seq ?_
  refine Wp.region hΓ [] [] [] [0,63,64] [] (K':=[(0,.str (Lib.trimRightB o7 32)),(63,.val (.int .i64 (List.length (Lib.trimRightB o7 32):Int))),(64,.val (.int .i64 0))]) (L':=[]) (ob:=[]) (by kernel_rfl) AllP.nil ?_
  refine To.thenN ?_
  refine Wp.block ?_
  obtain ⟨o9,ho9,h⟩:=bind_of h
  refine Wp.keep (kk:=[0,63,64]) (kl:=[]) (K':=[(0,.str (Lib.trimRightB o7 32)),(63,.val (.int .i64 (List.length (Lib.trimRightB o7 32):Int))),(64,.val (.int .i64 0))]) (L':=[]) (by kernel_rfl) (by kernel_rfl) ?_
  refine Wp.loopL ?_
  refine ok_env_value_l2 n (Lib.trimRightB o7 32) (List.length (Lib.trimRightB o7 32):Int) n 0 o9 ho9 ?_
  rcases o9 with o9 | o9
  ·replace h:=sum_l h
   refine To.blockX ?_
   refine To.thenN ?_
   refine Wp.seq ?_
   refine Wp.region hΓ [] [] [] [2,3] [] (K':=[(2,.str (Lib.trimRightB o7 32)),(3,.val (.bool true))]) (L':=[]) (ob:=[]) (by kernel_rfl) AllP.nil ?_
   refine To.thenN ?_
   refine Wp.ret ?_
   refine To.keep (kk:=[2,3]) (kl:=[]) (K':=[(2,.str (Lib.trimRightB o7 32)),(3,.val (.bool true))]) (L':=[]) (by kernel_rfl) (by kernel_rfl) ?_
   cases h
   exact To.done hΓ (by kernel_rfl)
  ·replace h:=sum_r h
   refine To.blockR ?_
   refine To.thenR ?_
   refine To.keep (kk:=[2,3]) (kl:=[]) (K':=[(2,.str o9.1),(3,.val (.bool o9.2))]) (L':=[]) (by kernel_rfl) (by kernel_rfl) ?_
   cases h
   exact To.done hΓ (by kernel_rfl)
def env_row_j1 (n:Nat) (v0:List UInt8) (v4:List UInt8) (v25:Bool) (b2:S_api_Var):Option ((List UInt8)) :=
 if v25 = true then (some (Lib.trimLeftB v4 32))
 else some v0
theorem ok_env_row_j1 (n:Nat) (v0:List UInt8) (v4:List UInt8) (v25:Bool) (b2:S_api_Var) (o:(List UInt8)) (h:env_row_j1 n v0 v4 v25 b2 = some o) {F0:Fz} {w0:Pt Tryd.prog} {Q:Exit → Act → World → Prop} (hQ:To 55 F0 w0 [(0,.str o),(2,.own 2 0)] [(2,43,[.str b2.f_Key,.str b2.f_Val])] .normal Q):Wp Tryd.prog 55 F0 w0 [(0,.str v0),(2,.own 2 0),(4,.str v4),(25,.val (.bool v25))] [(2,43,[.str b2.f_Key,.str b2.f_Val])] (cB (cB (cA (cB (cB (cB (cF Tryd.f37))))))) Q:=by
 unfold env_row_j1 at h
 refine Wp.cond (b:=v25) (by kernel_rfl) (fun hb=>?_) (fun hb=>?_)
 ·replace h:=if_t hb h
  refine Wp.region hΓ [] [(1,.str (Lib.trimLeftB v4 32))] [] [0,2] [2] (K':=[(0,.str (Lib.trimLeftB v4 32)),(2,.own 2 0)]) (L':=[(2,43,[.str b2.f_Key,.str b2.f_Val])]) (ob:=[(true = true → CX Tryd.prog 61 [.str v4,.str [32]] (.str (Lib.trimLeftB v4 32)))]) (by kernel_rfl) (AllP.cons (fun _=>cx (Sh.trimLeft161 (by decide))) AllP.nil) ?_
  refine To.keep (kk:=[0,2]) (kl:=[2]) (K':=[(0,.str (Lib.trimLeftB v4 32)),(2,.own 2 0)]) (L':=[(2,43,[.str b2.f_Key,.str b2.f_Val])]) (by kernel_rfl) (by kernel_rfl) ?_
  cases h
  exact hQ
 ·replace h:=if_f hb h
  refine Wp.skip ?_
  refine To.keep (kk:=[0,2]) (kl:=[2]) (K':=[(0,.str v0),(2,.own 2 0)]) (L':=[(2,43,[.str b2.f_Key,.str b2.f_Val])]) (by kernel_rfl) (by kernel_rfl) ?_
  cases h
  exact hQ
def env_row (n:Nat) (a0:List UInt8):Option (S_api_Var × Bool) :=
 if (decide (List.length a0 < 4294967281)) = true then (if ((!(((Lib.trimB a0 32) == []) == false) || decide (0 ≤ (0:Int) ∧ (0:Int) < (List.length (Lib.trimB a0 32):Int)))) = true then (if (bif ((Lib.trimB a0 32) == []) then true else (((((Lib.trimB a0 32))[Int.toNat 0]?.getD 0).toNat:Int) == 35)) = true then (some ((S_api_Var.mk [] []),true))
 else ((env_row_j1 n (Lib.trimB a0 32) (Lib.trimPrefix (Lib.trimB a0 32) ([101,120,112,111,114,116,32]:List UInt8)) (Lib.hasPrefix (Lib.trimB a0 32) ([101,120,112,111,114,116,32]:List UInt8)) (S_api_Var.mk [] [])).bind fun o2 =>
 if (decide (List.length o2 < 4294967281)) = true then (((if ((!((Lib.cut o2 ([61]:List UInt8)).2.2)) == false) = true then name_Variable n ((Lib.cut o2 ([61]:List UInt8)).1) else some false)).bind fun r4 =>
 lett ((bif (bif (!((Lib.cut o2 ([61]:List UInt8)).2.2)) then true else (!r4)) then true else (Lib.hasPrefix ((Lib.cut o2 ([61]:List UInt8)).2.1) ([32]:List UInt8))):Bool) fun x5 =>
 if x5 = true then (some ((S_api_Var.mk [] []),false))
 else ((env_value n ((Lib.cut o2 ([61]:List UInt8)).2.1)).bind fun r6 =>
 some ((S_api_Var.mk ((Lib.cut o2 ([61]:List UInt8)).1) r6.1),r6.2))) else none)) else none) else none
theorem ok_env_row (n:Nat) (a0:List UInt8) (r:S_api_Var × Bool) (h:env_row n a0 = some r):CallsX Tryd.prog 37 [.str a0] (.tup [.agg [.str r.1.f_Key,.str r.1.f_Val],.val (.bool r.2)]):=by
 unfold env_row at h
 refine callsX_of (fn:=Tryd.f37) (by kernel_rfl) rfl (by kernel_rfl) (Nat.le_of_ble_eq_true (by kernel_rfl)) fun F0 w0 _=>?_
 refine Wp.keep (kk:=[0]) (kl:=[]) (K':=[(0,.str a0)]) (L':=[]) (by kernel_rfl) (by kernel_rfl) ?_
 refine Wp.seq ?_
 refine Wp.region hΓ [] [] [] [0,2] [2] (K':=[(0,.str a0),(2,.own 2 0)]) (L':=[(2,43,[.str [],.str []])]) (ob:=[]) (by kernel_rfl) AllP.nil ?_
 refine To.thenN ?_
 refine Wp.seq ?_
 obtain ⟨u1,h⟩:=chk_of h
 refine Wp.region hΓ [] [(1,.str (Lib.trimB a0 32))] [] [0,2] [2] (K':=[(0,.str (Lib.trimB a0 32)),(2,.own 2 0)]) (L':=[(2,43,[.str [],.str []])]) (ob:=[(true = true → CX Tryd.prog 59 [.str a0,.str [32]] (.str (Lib.trimB a0 32)))]) (by kernel_rfl) (AllP.cons (fun _=>cx (Sh.trim159 (by decide) u1)) AllP.nil) ?_
 refine To.thenN ?_
 refine Wp.seq ?_
 refine Wp.seq ?_
 obtain ⟨hc7,h⟩:=chk_of h
 refine Wp.region hΓ [] [] [] [0,2,18] [2] (K':=[(0,.str (Lib.trimB a0 32)),(2,.own 2 0),(18,.val (.bool (bif ((Lib.trimB a0 32) == []) then true else (((((Lib.trimB a0 32))[Int.toNat 0]?.getD 0).toNat:Int) == 35))))]) (L':=[(2,43,[.str [],.str []])]) (ob:=[(!(((Lib.trimB a0 32) == []) == false) || decide (0 ≤ (0:Int) ∧ (0:Int) < (List.length (Lib.trimB a0 32):Int))) = true]) (by kernel_rfl) (AllP.cons hc7 AllP.nil) ?_
 refine To.thenN ?_
 refine Wp.cond (b:=(bif ((Lib.trimB a0 32) == []) then true else (((((Lib.trimB a0 32))[Int.toNat 0]?.getD 0).toNat:Int) == 35))) (by kernel_rfl) (fun hb=>?_) (fun hb=>?_)
 ·replace h:=if_t hb h
  refine Wp.seq ?_
  refine Wp.region hΓ [] [] [] [2,3] [2] (K':=[(2,.own 2 0),(3,.val (.bool true))]) (L':=[(2,43,[.str [],.str []])]) (ob:=[]) (by kernel_rfl) AllP.nil ?_
  refine To.thenN ?_
  refine Wp.ret ?_
  refine To.thenR ?_
  refine To.keep (kk:=[2,3]) (kl:=[2]) (K':=[(2,.own 2 0),(3,.val (.bool true))]) (L':=[(2,43,[.str [],.str []])]) (by kernel_rfl) (by kernel_rfl) ?_
  cases h
  exact To.done hΓ (by kernel_rfl)
 ·replace h:=if_f hb h
  refine Wp.skip ?_
  refine To.thenN ?_
  refine Wp.seq ?_
  refine Wp.seq ?_
  refine Wp.region hΓ [] [(1,.tup [.str (Lib.trimPrefix (Lib.trimB a0 32) ([101,120,112,111,114,116,32]:List UInt8)),.val (.bool (Lib.hasPrefix (Lib.trimB a0 32) ([101,120,112,111,114,116,32]:List UInt8)))])] [] [0,2,4,5] [2] (K':=[(0,.str (Lib.trimB a0 32)),(2,.own 2 0),(4,.str (Lib.trimPrefix (Lib.trimB a0 32) ([101,120,112,111,114,116,32]:List UInt8))),(5,.val (.bool (Lib.hasPrefix (Lib.trimB a0 32) ([101,120,112,111,114,116,32]:List UInt8))))]) (L':=[(2,43,[.str [],.str []])]) (ob:=[(true = true → CX Tryd.prog 60 [.str (Lib.trimB a0 32),.str [101,120,112,111,114,116,32]] (.tup [.str (Lib.trimPrefix (Lib.trimB a0 32) ([101,120,112,111,114,116,32]:List UInt8)),.val (.bool (Lib.hasPrefix (Lib.trimB a0 32) ([101,120,112,111,114,116,32]:List UInt8)))]))]) (by kernel_rfl) (AllP.cons (fun _=>cx (Sh.cutPrefix60)) AllP.nil) ?_
  refine To.thenN ?_
  refine Wp.seq ?_
  refine Wp.region hΓ [] [] [] [0,2,4,25] [2] (K':=[(0,.str (Lib.trimB a0 32)),(2,.own 2 0),(4,.str (Lib.trimPrefix (Lib.trimB a0 32) ([101,120,112,111,114,116,32]:List UInt8))),(25,.val (.bool (Lib.hasPrefix (Lib.trimB a0 32) ([101,120,112,111,114,116,32]:List UInt8))))]) (L':=[(2,43,[.str [],.str []])]) (ob:=[]) (by kernel_rfl) AllP.nil ?_
  refine To.thenN ?_
  obtain ⟨o2,ho2,h⟩:=bind_of h
  refine Wp.keep (kk:=[0,2,4,25]) (kl:=[2]) (K':=[(0,.str (Lib.trimB a0 32)),(2,.own 2 0),(4,.str (Lib.trimPrefix (Lib.trimB a0 32) ([101,120,112,111,114,116,32]:List UInt8))),(25,.val (.bool (Lib.hasPrefix (Lib.trimB a0 32) ([101,120,112,111,114,116,32]:List UInt8))))]) (L':=[(2,43,[.str [],.str []])]) (by kernel_rfl) (by kernel_rfl) ?_
  refine ok_env_row_j1 n (Lib.trimB a0 32) (Lib.trimPrefix (Lib.trimB a0 32) ([101,120,112,111,114,116,32]:List UInt8)) (Lib.hasPrefix (Lib.trimB a0 32) ([101,120,112,111,114,116,32]:List UInt8)) (S_api_Var.mk [] []) o2 ho2 ?_
  refine To.thenN ?_
  refine Wp.seq ?_
  obtain ⟨u3,h⟩:=chk_of h
  refine Wp.region hΓ [] [(1,.tup [.str ((Lib.cut o2 ([61]:List UInt8)).1),.str ((Lib.cut o2 ([61]:List UInt8)).2.1),.val (.bool ((Lib.cut o2 ([61]:List UInt8)).2.2))])] [] [2,6,7,8] [2] (K':=[(2,.own 2 0),(6,.str ((Lib.cut o2 ([61]:List UInt8)).1)),(7,.str ((Lib.cut o2 ([61]:List UInt8)).2.1)),(8,.val (.bool ((Lib.cut o2 ([61]:List UInt8)).2.2)))]) (L':=[(2,43,[.str [],.str []])]) (ob:=[(true = true → CX Tryd.prog 36 [.str o2,.str [61]] (.tup [.str ((Lib.cut o2 ([61]:List UInt8)).1),.str ((Lib.cut o2 ([61]:List UInt8)).2.1),.val (.bool ((Lib.cut o2 ([61]:List UInt8)).2.2))]))]) (by kernel_rfl) (AllP.cons (fun _=>cx (Sh.cut36 u3)) AllP.nil) ?_
  refine To.thenN ?_
  refine Wp.seq ?_
  refine Wp.seq ?_
  obtain ⟨r4,hr4,h⟩:=bind_of h
  obtain ⟨x5,hx5,h⟩:=lett_of h
  refine Wp.region hΓ [] [(4,.val (.bool r4)),(9,.val (.bool (Lib.hasPrefix ((Lib.cut o2 ([61]:List UInt8)).2.1) ([32]:List UInt8))))] [] [2,6,7,44] [2] (K':=[(2,.own 2 0),(6,.str ((Lib.cut o2 ([61]:List UInt8)).1)),(7,.str ((Lib.cut o2 ([61]:List UInt8)).2.1)),(44,.val (.bool (bif (bif (!((Lib.cut o2 ([61]:List UInt8)).2.2)) then true else (!r4)) then true else (Lib.hasPrefix ((Lib.cut o2 ([61]:List UInt8)).2.1) ([32]:List UInt8)))))]) (L':=[(2,43,[.str [],.str []])]) (ob:=[(((!((Lib.cut o2 ([61]:List UInt8)).2.2)) == false) = true → CX Tryd.prog 40 [.str ((Lib.cut o2 ([61]:List UInt8)).1)] (.val (.bool r4))),(((bif (!((Lib.cut o2 ([61]:List UInt8)).2.2)) then true else (!r4)) == false) = true → CX Tryd.prog 49 [.str ((Lib.cut o2 ([61]:List UInt8)).2.1),.str [32]] (.val (.bool (Lib.hasPrefix ((Lib.cut o2 ([61]:List UInt8)).2.1) ([32]:List UInt8)))))]) (by kernel_rfl) (AllP.cons (fun hg=>cx (ok_name_Variable n ((Lib.cut o2 ([61]:List UInt8)).1) _ (if_t hg hr4))) (AllP.cons (fun _=>cx (Sh.hasPrefix49)) AllP.nil)) ?_
  refine To.eq (K':=[(2,.own 2 0),(6,.str ((Lib.cut o2 ([61]:List UInt8)).1)),(7,.str ((Lib.cut o2 ([61]:List UInt8)).2.1)),(44,.val (.bool x5))]) (L':=[(2,43,[.str [],.str []])]) (by cases hx5; rfl) (by cases hx5; rfl) ?_
  refine To.thenN ?_
  refine Wp.cond (b:=x5) (by kernel_rfl) (fun hb=>?_) (fun hb=>?_)
  ·replace h:=if_t hb h
   refine Wp.seq ?_
   refine Wp.region hΓ [] [] [] [2,3] [2] (K':=[(2,.own 2 0),(3,.val (.bool false))]) (L':=[(2,43,[.str [],.str []])]) (ob:=[]) (by kernel_rfl) AllP.nil ?_
   refine To.thenN ?_
   refine Wp.ret ?_
   refine To.thenR ?_
   refine To.keep (kk:=[2,3]) (kl:=[2]) (K':=[(2,.own 2 0),(3,.val (.bool false))]) (L':=[(2,43,[.str [],.str []])]) (by kernel_rfl) (by kernel_rfl) ?_
   cases h
   exact To.done hΓ (by kernel_rfl)
  ·replace h:=if_f hb h
   refine Wp.skip ?_
   refine To.thenN ?_
   refine Wp.seq ?_
   obtain ⟨r6,hr6,h⟩:=bind_of h
   refine Wp.region hΓ [] [(1,.tup [.str r6.1,.val (.bool r6.2)])] [] [2,6,8,9] [2] (K':=[(2,.own 2 0),(6,.str ((Lib.cut o2 ([61]:List UInt8)).1)),(8,.val (.bool r6.2)),(9,.str r6.1)]) (L':=[(2,43,[.str [],.str []])]) (ob:=[(true = true → CX Tryd.prog 62 [.str ((Lib.cut o2 ([61]:List UInt8)).2.1)] (.tup [.str r6.1,.val (.bool r6.2)]))]) (by kernel_rfl) (AllP.cons (fun _=>cx (ok_env_value n ((Lib.cut o2 ([61]:List UInt8)).2.1) _ hr6)) AllP.nil) ?_
   refine To.thenN ?_
   refine Wp.seq ?_
   refine Wp.region hΓ [] [] [] [2,3] [2] (K':=[(2,.own 2 0),(3,.val (.bool r6.2))]) (L':=[(2,43,[.str ((Lib.cut o2 ([61]:List UInt8)).1),.str r6.1])]) (ob:=[]) (by kernel_rfl) AllP.nil ?_
   refine To.thenN ?_
   refine Wp.ret ?_
   refine To.keep (kk:=[2,3]) (kl:=[2]) (K':=[(2,.own 2 0),(3,.val (.bool r6.2))]) (L':=[(2,43,[.str ((Lib.cut o2 ([61]:List UInt8)).1),.str r6.1])]) (by kernel_rfl) (by kernel_rfl) ?_
   cases h
   exact To.done hΓ (by kernel_rfl)
def E_string:List UInt8 → List D:=fun x=>[.str x]
abbrev vi (x:Int):D:=.val (.int .i64 x)
abbrev vb (x:Bool):D:=.val (.bool x)
abbrev ls (l:List (List UInt8)):D:=.recs (α:=List UInt8) [] E_string l
theorem rg {nt:Nat} {F0:Fz} {w0:Pt Tryd.prog} {K:List (Nat × D)} {L:Boxes} {Q:Exit → Act → World → Prop} {id:Nat} {l:List Oper} (kk kl:List Nat) (K':List (Nat × D)) (L':Boxes) (hn:To nt F0 w0 K' L' .normal Q) (h:evRegion (CX Tryd.prog) (CallsB Tryd.prog) (tabΓ tab) nt [] [] l [] K L kk kl = some (K',L',[]):=by kernel_rfl):Wp Tryd.prog nt F0 w0 K L (.region id l.toArray false) Q:=Wp.region hΓ [] [] [] kk kl h AllP.nil hn
theorem rr {nt:Nat} {F0:Fz} {w0:Pt Tryd.prog} {K:List (Nat × D)} {L:Boxes} {Q:Exit → Act → World → Prop} {id:Nat} {l:List Oper} (fz:List (Nat × List Nat)) (orc:List (Nat × D)) (orb:List (Nat × CBd)) (kk kl:List Nat) (K':List (Nat × D)) (L':Boxes) (ob:List Prop) (hob:AllP ob) (hn:To nt F0 w0 K' L' .normal Q) (h:evRegion (CX Tryd.prog) (CallsB Tryd.prog) (tabΓ tab) nt orc orb l fz K L kk kl = some (K',L',ob):=by kernel_rfl):Wp Tryd.prog nt F0 w0 K L (.region id l.toArray false) Q:=Wp.region hΓ fz orc orb kk kl h hob hn
theorem kw {nt:Nat} {F0:Fz} {w0:Pt Tryd.prog} {K:List (Nat × D)} {L:Boxes} {Q:Exit → Act → World → Prop} {c:Code} (kk kl:List Nat) (K':List (Nat × D)) (L':Boxes) (hn:Wp Tryd.prog nt F0 w0 K' L' c Q) (h1:keepS K kk = some K':=by kernel_rfl) (h2:keepL L kl = some L':=by kernel_rfl):Wp Tryd.prog nt F0 w0 K L c Q:=Wp.keep h1 h2 hn
theorem kt {nt:Nat} {F0:Fz} {w0:Pt Tryd.prog} {K:List (Nat × D)} {L:Boxes} {Q:Exit → Act → World → Prop} {e:Exit} (kk kl:List Nat) (K':List (Nat × D)) (L':Boxes) (hn:To nt F0 w0 K' L' e Q) (h1:keepS K kk = some K':=by kernel_rfl) (h2:keepL L kl = some L':=by kernel_rfl):To nt F0 w0 K L e Q:=To.keep h1 h2 hn
theorem r0 {nt:Nat} {F0:Fz} {w0:Pt Tryd.prog} {K:List (Nat × D)} {L:Boxes} {Q:Exit → Act → World → Prop} {id:Nat} {l:List Oper} {ob:List Prop} (kk kl:List Nat) (K':List (Nat × D)) (L':Boxes) (hob:AllP ob) (hn:To nt F0 w0 K' L' .normal Q) (h:evRegion (CX Tryd.prog) (CallsB Tryd.prog) (tabΓ tab) nt [] [] l [] K L kk kl = some (K',L',ob):=by kernel_rfl):Wp Tryd.prog nt F0 w0 K L (.region id l.toArray false) Q:=Wp.region hΓ [] [] [] kk kl h hob hn
theorem rc {nt:Nat} {F0:Fz} {w0:Pt Tryd.prog} {K:List (Nat × D)} {L:Boxes} {Q:Exit → Act → World → Prop} {id:Nat} {l:List Oper} {f:Nat} {ds:List D} {r:D} (fz:List (Nat × List Nat)) (i:Nat) (kk kl:List Nat) (K':List (Nat × D)) (L':Boxes) (hc:CallsX Tryd.prog f ds r) (hn:To nt F0 w0 K' L' .normal Q) (h:evRegion (CX Tryd.prog) (CallsB Tryd.prog) (tabΓ tab) nt [(i,r)] [] l fz K L kk kl = some (K',L',[(true = true → CX Tryd.prog f ds r)]):=by kernel_rfl):Wp Tryd.prog nt F0 w0 K L (.region id l.toArray false) Q:=Wp.region hΓ fz [(i,r)] [] kk kl h (AllP.cons (fun _=>cx hc) AllP.nil) hn
theorem rb {nt:Nat} {F0:Fz} {w0:Pt Tryd.prog} {K:List (Nat × D)} {L:Boxes} {Q:Exit → Act → World → Prop} {id:Nat} {l:List Oper} {f:Nat} (fz:List (Nat × List Nat)) (i:Nat) (c:CBd) (kk kl:List Nat) (K':List (Nat × D)) (L':Boxes) (hc:CallsB Tryd.prog f c.ds c.Lin c.r c.Lout) (hn:To nt F0 w0 K' L' .normal Q) (h:evRegion (CX Tryd.prog) (CallsB Tryd.prog) (tabΓ tab) nt [] [(i,c)] l fz K L kk kl = some (K',L',[CbOb (CallsB Tryd.prog) f (D.subs (renF never c.ren) c.ds) (c.Lin.map fun x=>some (x.2.1,D.subs (renF never c.ren) x.2.2)) c]):=by kernel_rfl):Wp Tryd.prog nt F0 w0 K L (.region id l.toArray false) Q:=Wp.region hΓ fz [] [(i,c)] kk kl h (AllP.cons ⟨hc,rfl,rfl⟩ AllP.nil) hn
theorem c1 {f:Nat} {ds:List D} {r:D} (h:CallsX Tryd.prog f ds r):true = true → CX Tryd.prog f ds r:=fun _=>cx h
theorem cn {nt:Nat} {F0:Fz} {w0:Pt Tryd.prog} {K:List (Nat × D)} {L:Boxes} {Q:Exit → Act → World → Prop} {t:Nat} {x y:Code} {b:Bool} {α:Type _} {p q r:α} (h:(if b = true then p else q) = r) (h1:p = r → Wp Tryd.prog nt F0 w0 K L x Q) (h2:q = r → Wp Tryd.prog nt F0 w0 K L y Q) (hc:K.lookup t = some (.val (.bool b)):=by kernel_rfl):Wp Tryd.prog nt F0 w0 K L (.cond (.tmp t) x y) Q:=Wp.cond hc (fun hb=>h1 (if_t hb h)) (fun hb=>h2 (if_f hb h))
theorem xo {f : Nat} (fn : Func) {c : Code} {ds : List D} {r : D} (hbody : fn.body = some c) (h : ∀ (F0 : Fz) (w0 : World) (hsh : Shp Tryd.prog w0), Wp Tryd.prog fn.ntmps F0 (.top w0 hsh) (ds.zipIdx.map fun x => (x.2, x.1)) [] c (bodyPost Tryd.prog fn (PostX F0 w0 r))) (hf : Tryd.prog.funcs[f]? = some fn := by kernel_rfl) (hname : (fn.name == "runtime.NumGoroutine") = false := by kernel_rfl) (hn : ds.length.ble fn.ntmps = true := by kernel_rfl) : CallsX Tryd.prog f ds r := callsX_of hf hbody hname (Nat.le_of_ble_eq_true hn) h
theorem bo {f : Nat} (fn : Func) {c : Code} {ds : List D} {Lin : Boxes} {r : D} {Lout : Boxes} (hbody : fn.body = some c) (h : ∀ (F0 : Fz) (w0 : Pt Tryd.prog), Wp Tryd.prog fn.ntmps F0 w0 (ds.zipIdx.map fun x => (x.2, x.1)) Lin c (bodyPost Tryd.prog fn (PostB F0 w0 r Lout))) (hf : Tryd.prog.funcs[f]? = some fn := by kernel_rfl) (hname : (fn.name == "runtime.NumGoroutine") = false := by kernel_rfl) (hn : ds.length.ble fn.ntmps = true := by kernel_rfl) : CallsB Tryd.prog f ds Lin r Lout := callsB_of hf hbody hname (Nat.le_of_ble_eq_true hn) h
def rnA:List (Nat × Nat) → List (Nat × D) → Boxes → Option (List (Nat × D) × Boxes)
 | [],K,L=>some (K,L)
 | x :: rs,K,L=>if (Nat.blt x.2 1000000 && freshKey x.2 K L) = true then rnA rs (renK x.1 x.2 K) (renL x.1 x.2 L) else none
theorem rnA_st {nt:Nat} {F0:Fz} {w0:Pt Tryd.prog}:∀ (rs:List (Nat × Nat)) {K K':List (Nat × D)} {L L':Boxes},rnA rs K L = some (K',L') → ∀ a w,St nt F0 w0 K L a w → St nt F0 w0 K' L' a w
 | [],_,_,_,_,h,_,_,hs=>by cases h; exact hs
 | x :: rs,K,K',L,L',h,a,w,hs=>by
  unfold rnA at h
  split at h
  ·rename_i hc
   rw [Bool.and_eq_true] at hc
   exact rnA_st rs h a w (St.rename x.1 x.2 (by simpa using hc.1) hc.2 rfl rfl a w hs)
  ·cases h
def knA (rs:List (Nat × Nat)) (k0 l0 kk kl:List Nat) (K:List (Nat × D)) (L:Boxes):Option (List (Nat × D) × Boxes) :=
 match keepS K k0,keepL L l0 with
 | some K0,some L0=>(match rnA rs K0 L0 with
  | some (K1,L1)=>(match keepS K1 kk,keepL L1 kl with | some K2,some L2=>some (K2,L2) | _,_=>none)
  | none=>none)
 | _,_=>none
theorem knA_st {nt:Nat} {F0:Fz} {w0:Pt Tryd.prog} {rs:List (Nat × Nat)} {k0 l0 kk kl:List Nat} {K K':List (Nat × D)} {L L':Boxes} (h:knA rs k0 l0 kk kl K L = some (K',L')):∃ K0 L0 K1 L1,keepS K k0 = some K0 ∧ keepL L l0 = some L0 ∧ rnA rs K0 L0 = some (K1,L1) ∧ keepS K1 kk = some K' ∧ keepL L1 kl = some L':=by
 unfold knA at h
 split at h
 ·rename_i K0 L0 e1 e2
  split at h
  ·rename_i K1 L1 e3
   split at h
   ·rename_i K2 L2 e4 e5
    cases h
    exact ⟨K0,L0,K1,L1,e1,e2,e3,e4,e5⟩
   ·cases h
  ·cases h
 ·cases h
theorem nw {nt:Nat} {F0:Fz} {w0:Pt Tryd.prog} {K:List (Nat × D)} {L:Boxes} {Q:Exit → Act → World → Prop} {c:Code} (k0 l0:List Nat) (rs:List (Nat × Nat)) (kk kl:List Nat) (K':List (Nat × D)) (L':Boxes) (hn:Wp Tryd.prog nt F0 w0 K' L' c Q) (h:knA rs k0 l0 kk kl K L = some (K',L'):=by kernel_rfl):Wp Tryd.prog nt F0 w0 K L c Q :=
 let ⟨_,_,_,_,e1,e2,e3,e4,e5⟩:=knA_st (w0:=w0) (F0:=F0) (nt:=nt) h
 Wp.keep e1 e2 (Wp.pre (rnA_st rs e3) (Wp.keep e4 e5 hn))
theorem nt {nt:Nat} {F0:Fz} {w0:Pt Tryd.prog} {K:List (Nat × D)} {L:Boxes} {Q:Exit → Act → World → Prop} {e:Exit} (k0 l0:List Nat) (rs:List (Nat × Nat)) (kk kl:List Nat) (K':List (Nat × D)) (L':Boxes) (hn:To nt F0 w0 K' L' e Q) (h:knA rs k0 l0 kk kl K L = some (K',L'):=by kernel_rfl):To nt F0 w0 K L e Q :=
 let ⟨_,_,_,_,e1,e2,e3,e4,e5⟩:=knA_st (w0:=w0) (F0:=F0) (nt:=nt) h
 To.keep e1 e2 (To.pre (rnA_st rs e3) (To.keep e4 e5 hn))
theorem good_E_api_Var (l:List (S_api_Var)):GoodR (.recs (S_api_Var.mk [] []) E_api_Var l):=⟨Nat.le_of_ble_eq_true (by kernel_rfl),fun _=>⟨rfl,rfl⟩⟩
def env_told__m0_l1 (n:Nat) (v8:List (List UInt8)) (v9:Int) (b1000000:List (MK × S_env_entry)):Nat → (List (S_api_Var)) → Int → Option ((List (S_api_Var)))
 | 0,_,_=>none
 | k + 1,v3,v10=>if (decide (v10 < v9)) = true then (if (decide (0 ≤ v10 ∧ v10 < (List.length v8:Int))) = true then (if (decide ((List.length v3 + List.length ([(S_api_Var.mk ((v8)[Int.toNat v10]?.getD []) (((mlook b1000000 (.inl ((v8)[Int.toNat v10]?.getD []))).getD (S_env_entry.mk [])).f_val))]:List (S_api_Var))) * (32 + 1) ≤ limit)) = true then (lett ((v3 ++ ([(S_api_Var.mk ((v8)[Int.toNat v10]?.getD []) (((mlook b1000000 (.inl ((v8)[Int.toNat v10]?.getD []))).getD (S_env_entry.mk [])).f_val))]:List (S_api_Var))):List (S_api_Var)) fun x2 =>
 env_told__m0_l1 n v8 v9 b1000000 k x2 (IntKind.wrap .i64 (v10 + 1))) else none) else none)
 else some v3
abbrev zx1:S_api_Var:=S_api_Var.mk [] []
abbrev zx2:S_env_entry:=S_env_entry.mk []
abbrev rc3 (l:List (S_api_Var)):D:=.rowc false (α:=S_api_Var) zx1 E_api_Var l
abbrev rs4 (l:List (S_api_Var)):D:=.recs (α:=S_api_Var) zx1 E_api_Var l
abbrev ex1 (x0:List (List UInt8)) (x1:Int) (x2:List (MK × S_env_entry)):=(S_api_Var.mk ((x0)[Int.toNat x1]?.getD []) (((mlook x2 (.inl ((x0)[Int.toNat x1]?.getD []))).getD zx2).f_val))
abbrev ex2 (x0:Int):Nat × D:=(10,vi (IntKind.wrap .i64 (x0 + 1)))
theorem ok_env_told__m0_l1 (n:Nat) (v8:List (List UInt8)) (v9:Int) (b1000000:List (MK × S_env_entry)) {F0:Fz} {w0:Pt Tryd.prog} {Q:Exit → Act → World → Prop} (k:Nat):∀ (v3:List (S_api_Var)) (v10:Int) (o:(List (S_api_Var))),env_told__m0_l1 n v8 v9 b1000000 k v3 v10 = some o → To 25 F0 w0 [(3,.row 1003)] [(1003,43,[rc3 o]),(1000000,82,[.mapc none true (α:=S_env_entry) zx2 E_env_entry b1000000])] (.exit 0) Q → WL Tryd.prog 25 F0 w0 [(0,.mp 1000000),(3,.row 1003),(8,ls v8),(9,vi v9),(10,vi v10)] [(1003,43,[rc3 v3]),(1000000,82,[.mapc none true (α:=S_env_entry) zx2 E_env_entry b1000000])] (cI (cI (cB (cA (cB (cB (cF Tryd.f38))))))) Q:=by
 induction k with
 | zero=>intro v3 v10 o h; cases h
 | succ k ih =>
  intro v3 v10 o h hQ
  rw [env_told__m0_l1] at h
  refine WL.round (Wp.seq (rg [0,3,8,9,10,11] [1003,1000000] [(0,.mp 1000000),(3,.row 1003),(8,ls v8),(9,vi v9),(10,vi v10),(11,vb (decide (v10 < v9)))] [(1003,43,[rc3 v3]),(1000000,82,[.mapc none true (α:=S_env_entry) zx2 E_env_entry b1000000])] (To.thenN (Wp.seq (cn h (fun h=>?_) (fun h=>?_))))))
  ·refine Wp.skip (To.thenN (Wp.seq (Wp.block (Wp.seq ?_))))
   obtain ⟨hc4,h⟩:=chk_of h
   refine r0 [0,3,5,8,9,10] [1003,1000000] [(0,.mp 1000000),(3,.row 1003),(5,.str ((v8)[Int.toNat v10]?.getD [])),(8,ls v8),(9,vi v9),(10,vi v10)] [(1003,43,[rc3 v3]),(1000000,82,[.mapc none true (α:=S_env_entry) zx2 E_env_entry b1000000])] (AllP.cons hc4 AllP.nil) (To.thenN ?_)
   obtain ⟨hc3,h⟩:=chk_of h
   obtain ⟨x2,hx2,h⟩:=lett_of h
   refine rr [] [(4,.agg [.str (((mlook b1000000 (.inl ((v8)[Int.toNat v10]?.getD []))).getD zx2).f_val)]),(7,rs4 ([(ex1 v8 v10 b1000000)])),(8,rs4 (v3 ++ ([(ex1 v8 v10 b1000000)]:List (S_api_Var))))] [] [0,3,8,9,10] [22,1000000] [(0,.mp 1000000),(3,.row 22),(8,ls v8),(9,vi v9),(10,vi v10)] [(22,43,[rc3 (v3 ++ ([(ex1 v8 v10 b1000000)]:List (S_api_Var)))]),(1000000,82,[.mapc none true (α:=S_env_entry) zx2 E_env_entry b1000000])] [(true = true → LookOb true E_env_entry b1000000 (.inl ((v8)[Int.toNat v10]?.getD [])) [.str []] (.agg [.str (((mlook b1000000 (.inl ((v8)[Int.toNat v10]?.getD []))).getD zx2).f_val)])),(MkOb 2 [.str ((v8)[Int.toNat v10]?.getD []),.str (((mlook b1000000 (.inl ((v8)[Int.toNat v10]?.getD []))).getD zx2).f_val)] 1 (rs4 ([(ex1 v8 v10 b1000000)])) ∧ GoodR (rs4 ([(ex1 v8 v10 b1000000)]))),_,(AppOb zx1 E_api_Var v3 (List.flatMap E_api_Var ([(ex1 v8 v10 b1000000)]:List (S_api_Var))) (List.length ([(ex1 v8 v10 b1000000)]:List (S_api_Var))) (rs4 (v3 ++ ([(ex1 v8 v10 b1000000)]:List (S_api_Var)))) ∧ GoodR (rs4 (v3 ++ ([(ex1 v8 v10 b1000000)]:List (S_api_Var)))))] (AllP.cons (fun _=>⟨zx2,Weaks.of_eq (by kernel_rfl),by kernel_rfl⟩) (AllP.cons (mkOb (by kernel_rfl) rfl (by kernel_rfl) (good_E_api_Var _)) (AllP.cons hc3 (AllP.cons (appOb rfl rfl (good_E_api_Var _)) AllP.nil)))) ?_
   refine To.eq (K':=[(0,.mp 1000000),(3,.row 22),(8,ls v8),(9,vi v9),(10,vi v10)]) (L':=[(22,43,[rc3 x2]),(1000000,82,[.mapc none true (α:=S_env_entry) zx2 E_env_entry b1000000])]) (by cases hx2; rfl) (by cases hx2; rfl) (To.blockN (To.thenN (rg [0,3,8,9,10] [22,1000000] [(0,.mp 1000000),(3,.row 22),(8,ls v8),(9,vi v9),(ex2 v10)] [(22,43,[rc3 x2]),(1000000,82,[.mapc none true (α:=S_env_entry) zx2 E_env_entry b1000000])] (nt [0,3,8,9,10] [22,1000000] [(22,1003)] [0,3,8,9,10] [1003,1000000] [(0,.mp 1000000),(3,.row 1003),(8,ls v8),(9,vi v9),(ex2 v10)] [(1003,43,[rc3 x2]),(1000000,82,[.mapc none true (α:=S_env_entry) zx2 E_env_entry b1000000])] (To.again ?_)))))
   exact ih x2 (IntKind.wrap .i64 (v10 + 1)) _ h hQ
  ·refine Wp.exit (To.thenX (To.thenX (kt [3] [1003,1000000] [(3,.row 1003)] [(1003,43,[rc3 v3]),(1000000,82,[.mapc none true (α:=S_env_entry) zx2 E_env_entry b1000000])] ?_)))
   cases h
   exact hQ
def env_told__m0 (n:Nat) (h0:List (MK × S_env_entry)):Option ((List (S_api_Var)) × (List (MK × S_env_entry))) :=
 if (keysOkS h0) = true then ((env_told__m0_l1 n (keysS h0) (List.length (keysS h0):Int) h0 n ([]:List (S_api_Var)) 0).bind fun o2 =>
 some (o2,h0)) else none
abbrev rc5 (l:List (S_api_Var)):D:=.rowc true (α:=S_api_Var) zx1 E_api_Var l
theorem ok_env_told__m0 (n:Nat) (h0:List (MK × S_env_entry)) (r:(List (S_api_Var)) × (List (MK × S_env_entry))) (h:env_told__m0 n h0 = some r):CallsB Tryd.prog 38 [.mp 1000000] [(1000000,82,[.mapc none true (α:=S_env_entry) zx2 E_env_entry h0])] (rs4 r.1) [(1000000,82,[.mapc none true (α:=S_env_entry) zx2 E_env_entry r.2])]:=by
 unfold env_told__m0 at h
 refine bo Tryd.f38 rfl fun F0 w0=>?_
 refine Wp.seq (rg [0] [1000000] [(0,.mp 1000000)] [(1000000,82,[.mapc none true (α:=S_env_entry) zx2 E_env_entry h0])] (To.thenN (Wp.seq (rg [0,3] [1000000] [(0,.mp 1000000),(3,.val (.slice none 0 0))] [(1000000,82,[.mapc none true (α:=S_env_entry) zx2 E_env_entry h0])] (To.thenN (Wp.seq (Wp.seq ?_)))))))
 obtain ⟨u1,h⟩:=chk_of h
 refine rr [] [] [(1,⟨[(1000000,1000000)],[(1,7),(1000000,1000000)],[.mp 1000000],[(1000000,82,[.mapc none true (α:=S_env_entry) zx2 E_env_entry h0])],.fn 104 [.own 1 0],[(1000000,82,[.mapc none true (α:=S_env_entry) zx2 E_env_entry h0]),(1,82,[.mp 1000000])]⟩),(2,⟨[(1000000,1000000),(1000001,7)],[(1000000,1000000),(1000001,7)],[.fn 104 [.own 1000001 0]],[(1000000,82,[.mapc none true (α:=S_env_entry) zx2 E_env_entry h0]),(1000001,82,[.mp 1000000])],ls (keysS h0),[(1000000,82,[.mapc none true (α:=S_env_entry) zx2 E_env_entry h0]),(1000001,82,[.mp 1000000])]⟩)] [0,3,8,9,10] [1000000] [(0,.mp 1000000),(3,.val (.slice none 0 0)),(8,ls (keysS h0)),(9,vi (List.length (keysS h0):Int)),(10,vi 0)] [(1000000,82,[.mapc none true (α:=S_env_entry) zx2 E_env_entry h0])] [CbOb (CallsB Tryd.prog) 64 [.mp 1000000] [some (82,[.mapc none true (α:=S_env_entry) zx2 E_env_entry h0])] ⟨[(1000000,1000000)],[(1,7),(1000000,1000000)],[.mp 1000000],[(1000000,82,[.mapc none true (α:=S_env_entry) zx2 E_env_entry h0])],.fn 104 [.own 1 0],[(1000000,82,[.mapc none true (α:=S_env_entry) zx2 E_env_entry h0]),(1,82,[.mp 1000000])]⟩,CbOb (CallsB Tryd.prog) 63 [.fn 104 [.own 7 0]] [some (82,[.mapc none true (α:=S_env_entry) zx2 E_env_entry h0]),some (82,[.mp 1000000])] ⟨[(1000000,1000000),(1000001,7)],[(1000000,1000000),(1000001,7)],[.fn 104 [.own 1000001 0]],[(1000000,82,[.mapc none true (α:=S_env_entry) zx2 E_env_entry h0]),(1000001,82,[.mp 1000000])],ls (keysS h0),[(1000000,82,[.mapc none true (α:=S_env_entry) zx2 E_env_entry h0]),(1000001,82,[.mp 1000000])]⟩] (AllP.cons (⟨Sh.keys64,by kernel_rfl,by kernel_rfl⟩) (AllP.cons (⟨Sh.sortedKeys63_104 u1,by kernel_rfl,by kernel_rfl⟩) AllP.nil)) ?_
 refine To.thenN (Wp.block ?_)
 obtain ⟨o2,ho2,h⟩:=bind_of h
 refine kw [0,3,8,9,10] [1000000] [(0,.mp 1000000),(3,.val (.slice none 0 0)),(8,ls (keysS h0)),(9,vi (List.length (keysS h0):Int)),(10,vi 0)] [(1000000,82,[.mapc none true (α:=S_env_entry) zx2 E_env_entry h0])] (Wp.pre (St.vacant (t:=3) (k:=1003) (e:=43) (K':=[(0,.mp 1000000),(3,.row 1003),(8,ls (keysS h0)),(9,vi (List.length (keysS h0):Int)),(10,vi 0)]) (good_E_api_Var _) (by decide) (by kernel_rfl) (by kernel_rfl)) (kw [0,3,8,9,10] [1003,1000000] [(0,.mp 1000000),(3,.row 1003),(8,ls (keysS h0)),(9,vi (List.length (keysS h0):Int)),(10,vi 0)] [(1003,43,[rc3 []]),(1000000,82,[.mapc none true (α:=S_env_entry) zx2 E_env_entry h0])] (Wp.loopL (ok_env_told__m0_l1 n (keysS h0) (List.length (keysS h0):Int) h0 n ([]:List (S_api_Var)) 0 o2 ho2 (To.blockX (To.thenN (Wp.seq (rg [2] [1003,1000000] [(2,.row 1003)] [(1003,43,[rc3 o2]),(1000000,82,[.mapc none true (α:=S_env_entry) zx2 E_env_entry h0])] (To.thenN (Wp.ret ?_))))))))))
 refine To.pre (St.settle (ks:=[1003]) (kk:=[2]) (kl:=[1003,1000000]) (K':=[(2,.row 1003)]) (L':=[(1003,43,[rc5 o2]),(1000000,82,[.mapc none true (α:=S_env_entry) zx2 E_env_entry h0])]) (by kernel_rfl)) (To.pre (St.sealK [2] (K':=[(2,rs4 o2)]) (by kernel_rfl)) ?_)
 cases h
 exact To.doneB hΓ [1000000] (by kernel_rfl) (by kernel_rfl)
def env_Parse_j2 (n:Nat) (v0:List UInt8) (v6:Int) (b15:List (MK × S_env_entry)):Option (Sum ((List UInt8) × (List (MK × S_env_entry))) (Int × Int)) :=
 if (decide (List.length v0 < 4294967281)) = true then ((env_row n ((Lib.cut v0 ([10]:List UInt8)).1)).bind fun r2 =>
 if (!r2.2) = true then (some (.inr (v6,3)))
 else (if (!(r2.1.f_Key == [])) = true then (some (.inl ((Lib.cut v0 ([10]:List UInt8)).2.1,(mput b15 (.inl r2.1.f_Key) (S_env_entry.mk r2.1.f_Val)))))
 else (some (.inl ((Lib.cut v0 ([10]:List UInt8)).2.1,b15))))) else none
abbrev qc6 (x:S_api_Var):List D:=[.str x.f_Key,.str x.f_Val]
abbrev ex3 (x0:List UInt8):=(Lib.cut x0 ([10]:List UInt8))
theorem ok_env_Parse_j2 (n:Nat) (v0:List UInt8) (v6:Int) (b15:List (MK × S_env_entry)) (o:Sum ((List UInt8) × (List (MK × S_env_entry))) (Int × Int)) (h:env_Parse_j2 n v0 v6 b15 = some o) {F0:Fz} {w0:Pt Tryd.prog} {Q:Exit → Act → World → Prop} (hQ:(Sum.elim (fun s=>To 49 F0 w0 [(0,.str s.1),(5,.mp 15),(6,vi v6)] [(15,82,[.mapc none true (α:=S_env_entry) zx2 E_env_entry s.2])] .normal Q) (fun s=>To 49 F0 w0 [(2,.val (.slice none 0 0)),(3,vi s.1),(4,vi s.2)] [] .ret Q)) o):Wp Tryd.prog 49 F0 w0 [(0,.str v0),(5,.mp 15),(6,vi v6)] [(15,82,[.mapc none true (α:=S_env_entry) zx2 E_env_entry b15])] (cA (cB (cI (cI (cB (cA (cB (cB (cB (cF Tryd.f19)))))))))) Q:=by
 unfold env_Parse_j2 at h
 refine Wp.block (Wp.seq ?_)
 obtain ⟨u1,h⟩:=chk_of h
 refine rr [] [(1,.tup [.str ((ex3 v0).1),.str ((ex3 v0).2.1),vb ((ex3 v0).2.2)])] [] [5,6,7,8] [15] [(5,.mp 15),(6,vi v6),(7,.str ((ex3 v0).1)),(8,.str ((ex3 v0).2.1))] [(15,82,[.mapc none true (α:=S_env_entry) zx2 E_env_entry b15])] [(true = true → CX Tryd.prog 36 [.str v0,.str [10]] (.tup [.str ((ex3 v0).1),.str ((ex3 v0).2.1),vb ((ex3 v0).2.2)]))] (AllP.cons (fun _=>cx (Sh.cut36 u1)) AllP.nil) (To.thenN (Wp.seq (rg [0,5,6,7] [15] [(0,.str ((ex3 v0).2.1)),(5,.mp 15),(6,vi v6),(7,.str ((ex3 v0).1))] [(15,82,[.mapc none true (α:=S_env_entry) zx2 E_env_entry b15])] (To.thenN (Wp.seq ?_)))))
 obtain ⟨r2,hr2,h⟩:=bind_of h
 refine rc [] 1 [0,5,6,10,11] [10,15] [(0,.str ((ex3 v0).2.1)),(5,.mp 15),(6,vi v6),(10,.own 10 0),(11,vb r2.2)] [(10,43,qc6 r2.1),(15,82,[.mapc none true (α:=S_env_entry) zx2 E_env_entry b15])] (ok_env_row n ((ex3 v0).1) _ hr2) (To.thenN (Wp.seq (Wp.seq (rg [0,5,6,10,33] [10,15] [(0,.str ((ex3 v0).2.1)),(5,.mp 15),(6,vi v6),(10,.own 10 0),(33,vb (!r2.2))] [(10,43,qc6 r2.1),(15,82,[.mapc none true (α:=S_env_entry) zx2 E_env_entry b15])] (To.thenN (cn h (fun h=>?_) (fun h=>?_)))))))
 ·refine Wp.seq (rg [2,3,4] [] [(2,.val (.slice none 0 0)),(3,vi v6),(4,vi 3)] [] (To.thenN (Wp.ret (To.thenR (To.blockR ?_)))))
  cases h
  exact hQ
 ·refine Wp.skip (To.thenN (Wp.seq (rg [0,5,6,10,37] [10,15] [(0,.str ((ex3 v0).2.1)),(5,.mp 15),(6,vi v6),(10,.own 10 0),(37,vb (!(r2.1.f_Key == [])))] [(10,43,qc6 r2.1),(15,82,[.mapc none true (α:=S_env_entry) zx2 E_env_entry b15])] (To.thenN (cn h (fun h=>?_) (fun h=>?_))))))
  ·refine rr [] [(6,.mapc none true (α:=S_env_entry) zx2 E_env_entry (mput b15 (.inl r2.1.f_Key) (S_env_entry.mk r2.1.f_Val)))] [] [0,5,6] [15] [(0,.str ((ex3 v0).2.1)),(5,.mp 15),(6,vi v6)] [(15,82,[.mapc none true (α:=S_env_entry) zx2 E_env_entry (mput b15 (.inl r2.1.f_Key) (S_env_entry.mk r2.1.f_Val))])] [(∃ l':List (MK × S_env_entry),(.mapc none true (α:=S_env_entry) zx2 E_env_entry (mput b15 (.inl r2.1.f_Key) (S_env_entry.mk r2.1.f_Val)):D) = .mapc none true (α:=S_env_entry) zx2 E_env_entry l' ∧ MsetOb E_env_entry b15 (.inl r2.1.f_Key) [.str r2.1.f_Val] l')] (AllP.cons (⟨_,rfl,(S_env_entry.mk r2.1.f_Val),Weaks.of_eq (by kernel_rfl),rfl⟩) AllP.nil) (To.blockN ?_)
   cases h
   exact hQ
  ·refine Wp.skip (To.blockN (kt [0,5,6] [15] [(0,.str ((ex3 v0).2.1)),(5,.mp 15),(6,vi v6)] [(15,82,[.mapc none true (α:=S_env_entry) zx2 E_env_entry b15])] ?_))
   cases h
   exact hQ
def env_Parse_l1 (n:Nat):Nat → (List UInt8) → Int → (List (MK × S_env_entry)) → Option (Sum ((List (MK × S_env_entry))) (Int × Int))
 | 0,_,_,_=>none
 | k + 1,v0,v6,b15=>if (!(v0 == [])) = true then ((env_Parse_j2 n v0 v6 b15).bind fun o1 =>
 (Sum.elim (fun o1=>env_Parse_l1 n k o1.1 (IntKind.wrap .i64 (v6 + 1)) o1.2) (fun o1=>some (.inr (o1.1,o1.2)))) o1)
 else (some (.inl b15))
theorem ok_env_Parse_l1 (n:Nat) {F0:Fz} {w0:Pt Tryd.prog} {Q:Exit → Act → World → Prop} (k:Nat):∀ (v0:List UInt8) (v6:Int) (b15:List (MK × S_env_entry)) (o:Sum ((List (MK × S_env_entry))) (Int × Int)),env_Parse_l1 n k v0 v6 b15 = some o → (Sum.elim (fun s=>To 49 F0 w0 [(5,.mp 15)] [(15,82,[.mapc none true (α:=S_env_entry) zx2 E_env_entry s])] (.exit 0) Q) (fun s=>To 49 F0 w0 [(2,.val (.slice none 0 0)),(3,vi s.1),(4,vi s.2)] [] .ret Q)) o → WL Tryd.prog 49 F0 w0 [(0,.str v0),(5,.mp 15),(6,vi v6)] [(15,82,[.mapc none true (α:=S_env_entry) zx2 E_env_entry b15])] (cI (cI (cB (cA (cB (cB (cB (cF Tryd.f19)))))))) Q:=by
 induction k with
 | zero=>intro v0 v6 b15 o h; cases h
 | succ k ih =>
  intro v0 v6 b15 o h hQ
  rw [env_Parse_l1] at h
  refine WL.round (Wp.seq (Wp.seq (rg [0,5,6,17] [15] [(0,.str v0),(5,.mp 15),(6,vi v6),(17,vb (!(v0 == [])))] [(15,82,[.mapc none true (α:=S_env_entry) zx2 E_env_entry b15])] (To.thenN (cn h (fun h=>?_) (fun h=>?_))))))
  ·refine Wp.skip (To.thenN (Wp.seq ?_))
   obtain ⟨o1,ho1,h⟩:=bind_of h
   refine kw [0,5,6] [15] [(0,.str v0),(5,.mp 15),(6,vi v6)] [(15,82,[.mapc none true (α:=S_env_entry) zx2 E_env_entry b15])] (ok_env_Parse_j2 n v0 v6 b15 o1 ho1 ?_)
   rcases o1 with o1 | o1
   ·replace h:=sum_l h
    refine To.thenN (rg [0,5,6] [15] [(0,.str o1.1),(5,.mp 15),(6,vi (IntKind.wrap .i64 (v6 + 1)))] [(15,82,[.mapc none true (α:=S_env_entry) zx2 E_env_entry o1.2])] (kt [0,5,6] [15] [(0,.str o1.1),(5,.mp 15),(6,vi (IntKind.wrap .i64 (v6 + 1)))] [(15,82,[.mapc none true (α:=S_env_entry) zx2 E_env_entry o1.2])] (To.again ?_)))
    exact ih o1.1 (IntKind.wrap .i64 (v6 + 1)) o1.2 _ h hQ
   ·replace h:=sum_r h
    refine To.thenR (To.thenR (kt [2,3,4] [] [(2,.val (.slice none 0 0)),(3,vi o1.1),(4,vi o1.2)] [] ?_))
    cases h
    exact hQ
  ·refine Wp.exit (To.thenX (To.thenX (kt [5] [15] [(5,.mp 15)] [(15,82,[.mapc none true (α:=S_env_entry) zx2 E_env_entry b15])] ?_)))
   cases h
   exact hQ
def env_Parse (n:Nat) (a0:List UInt8):Option ((List (S_api_Var)) × Int × Int) :=
 if (decide ((List.length a0:Int) > 8192)) = true then (some ([],0,9))
 else ((env_Parse_l1 n n a0 1 ([]:List (MK × S_env_entry))).bind fun o1 =>
 (Sum.elim (fun o1=>if (decide ((List.length o1:Int) > 64)) = true then (some ([],0,9))
 else ((env_told__m0 n o1).bind fun r2 =>
 some (r2.1,0,0))) (fun o1=>some ([],o1.1,o1.2))) o1)
theorem ok_env_Parse (n:Nat) (a0:List UInt8) (r:(List (S_api_Var)) × Int × Int) (h:env_Parse n a0 = some r):CallsX Tryd.prog 19 [.str a0] (.tup [rs4 r.1,vi r.2.1,vi r.2.2]):=by
 unfold env_Parse at h
 refine xo Tryd.f19 rfl fun F0 w0 _=>?_
 refine Wp.seq (rg [0] [] [(0,.str a0)] [] (To.thenN (Wp.seq (Wp.seq (rg [0,14] [] [(0,.str a0),(14,vb (decide ((List.length a0:Int) > 8192)))] [] (To.thenN (cn h (fun h=>?_) (fun h=>?_))))))))
 ·refine Wp.seq (rg [2,3,4] [] [(2,.val (.slice none 0 0)),(3,vi 0),(4,vi 9)] [] (To.thenN (Wp.ret (To.thenR (To.weak (K':=[(2,rs4 []),(3,vi 0),(4,vi 9)]) (L':=[]) (.cons (.zero _ _) (.cons (.refl _) (.cons (.refl _) .nil))) .nil ?_)))))
  cases h
  exact To.done hΓ (by kernel_rfl)
 ·refine Wp.skip (To.thenN (Wp.seq (rr [] [(0,.mapc none true (α:=S_env_entry) zx2 E_env_entry [])] [] [0,5] [15] [(0,.str a0),(5,.mp 15)] [(15,82,[.mapc none true (α:=S_env_entry) zx2 E_env_entry []])] [(GoodM true E_env_entry)] (AllP.cons (⟨fun _=>rfl,fun h=>by cases h⟩) AllP.nil) ?_)))
  refine To.thenN (Wp.seq (Wp.seq (rg [0,5,6] [15] [(0,.str a0),(5,.mp 15),(6,vi 1)] [(15,82,[.mapc none true (α:=S_env_entry) zx2 E_env_entry []])] (To.thenN (Wp.block ?_)))))
  obtain ⟨o1,ho1,h⟩:=bind_of h
  refine kw [0,5,6] [15] [(0,.str a0),(5,.mp 15),(6,vi 1)] [(15,82,[.mapc none true (α:=S_env_entry) zx2 E_env_entry []])] (Wp.loopL (ok_env_Parse_l1 n n a0 1 ([]:List (MK × S_env_entry)) o1 ho1 ?_))
  rcases o1 with o1 | o1
  ·replace h:=sum_l h
   refine To.blockX (To.thenN (Wp.seq (Wp.seq (rg [5,46] [15] [(5,.mp 15),(46,vb (decide ((List.length o1:Int) > 64)))] [(15,82,[.mapc none true (α:=S_env_entry) zx2 E_env_entry o1])] (To.thenN (cn h (fun h=>?_) (fun h=>?_)))))))
   ·refine Wp.seq (rg [2,3,4] [] [(2,.val (.slice none 0 0)),(3,vi 0),(4,vi 9)] [] (To.thenN (Wp.ret (To.thenR (To.weak (K':=[(2,rs4 []),(3,vi 0),(4,vi 9)]) (L':=[]) (.cons (.zero _ _) (.cons (.refl _) (.cons (.refl _) .nil))) .nil ?_)))))
    cases h
    exact To.done hΓ (by kernel_rfl)
   ·refine Wp.skip (To.thenN (Wp.seq ?_))
    obtain ⟨r2,hr2,h⟩:=bind_of h
    refine rb [] 1 ⟨[(1000000,15)],[(1000000,15)],[.mp 1000000],[(1000000,82,[.mapc none true (α:=S_env_entry) zx2 E_env_entry o1])],rs4 r2.1,[(1000000,82,[.mapc none true (α:=S_env_entry) zx2 E_env_entry r2.2])]⟩ [2,3,4] [] [(2,rs4 r2.1),(3,vi 0),(4,vi 0)] [] ((ok_env_told__m0 n o1 _ hr2)) (To.thenN (Wp.ret ?_))
    cases h
    exact To.done hΓ (by kernel_rfl)
  ·replace h:=sum_r h
   refine To.blockR (To.thenR (kt [2,3,4] [] [(2,.val (.slice none 0 0)),(3,vi o1.1),(4,vi o1.2)] [] (To.weak (K':=[(2,rs4 []),(3,vi o1.1),(4,vi o1.2)]) (L':=[]) (.cons (.zero _ _) (.cons (.refl _) (.cons (.refl _) .nil))) .nil ?_)))
   cases h
   exact To.done hΓ (by kernel_rfl)
def ref12_Same_l1 (n:Nat) (v0:List (S_api_Var)) (v1:List (S_api_Var)):Nat → Int → Option (Sum (Unit) (Bool))
 | 0,_=>none
 | k + 1,v5=>if (decide (v5 < (List.length v0:Int))) = true then (if (decide (0 ≤ v5 ∧ v5 < (List.length v0:Int))) = true then (if (decide (0 ≤ v5 ∧ v5 < (List.length v1:Int))) = true then (lett ((!((((v0)[Int.toNat v5]?.getD (S_api_Var.mk [] [])).f_Key == ((v1)[Int.toNat v5]?.getD (S_api_Var.mk [] [])).f_Key) && (((v0)[Int.toNat v5]?.getD (S_api_Var.mk [] [])).f_Val == ((v1)[Int.toNat v5]?.getD (S_api_Var.mk [] [])).f_Val))):Bool) fun x1 =>
 if x1 = true then (some (.inr false))
 else (ref12_Same_l1 n v0 v1 k (IntKind.wrap .i64 (v5 + 1)))) else none) else none)
 else (some (.inl ()))
abbrev ex4 (x0:List (S_api_Var)) (x1:Int):=((x0)[Int.toNat x1]?.getD zx1)
abbrev ex5 (x0:Int) (x1:List (S_api_Var)):=(decide (0 ≤ x0 ∧ x0 < (List.length x1:Int)))
theorem ok_ref12_Same_l1 (n:Nat) (v0:List (S_api_Var)) (v1:List (S_api_Var)) {F0:Fz} {w0:Pt Tryd.prog} {Q:Exit → Act → World → Prop} (k:Nat):∀ (v5:Int) (o:Sum (Unit) (Bool)),ref12_Same_l1 n v0 v1 k v5 = some o → (Sum.elim (fun s=>To 26 F0 w0 [] [] (.exit 0) Q) (fun s=>To 26 F0 w0 [(4,vb s)] [] .ret Q)) o → WL Tryd.prog 26 F0 w0 [(0,rs4 v0),(1,rs4 v1),(5,vi v5)] [] (cI (cI (cB (cA (cB (cB (cF Tryd.f21))))))) Q:=by
 induction k with
 | zero=>intro v5 o h; cases h
 | succ k ih =>
  intro v5 o h hQ
  rw [ref12_Same_l1] at h
  refine WL.round (Wp.seq (Wp.seq (rg [0,1,5,14] [] [(0,rs4 v0),(1,rs4 v1),(5,vi v5),(14,vb (decide (v5 < (List.length v0:Int))))] [] (To.thenN (cn h (fun h=>?_) (fun h=>?_))))))
  ·refine Wp.skip (To.thenN (Wp.seq (Wp.block (Wp.seq ?_))))
   obtain ⟨hc2,h⟩:=chk_of h
   obtain ⟨hc3,h⟩:=chk_of h
   obtain ⟨x1,hx1,h⟩:=lett_of h
   refine Wp.regionD hm hΓ [] [0,1,5,25] [] (K':=[(0,rs4 v0),(1,rs4 v1),(5,vi v5),(25,vb (!(((ex4 v0 v5).f_Key == (ex4 v1 v5).f_Key) && ((ex4 v0 v5).f_Val == (ex4 v1 v5).f_Val))))]) (L':=[]) (ob:=[(ex5 v5 v0) = true,(ex5 v5 v1) = true]) (by kernel_rfl) (AllP.cons hc2 (AllP.cons hc3 AllP.nil)) (To.eq (K':=[(0,rs4 v0),(1,rs4 v1),(5,vi v5),(25,vb x1)]) (L':=[]) (by cases hx1; rfl) (by cases hx1; rfl) (To.thenN (cn h (fun h=>?_) (fun h=>?_))))
   ·refine Wp.seq (rg [4] [] [(4,vb false)] [] (To.thenN (Wp.ret (To.blockR (To.thenR (To.thenR ?_))))))
    cases h
    exact hQ
   ·refine Wp.skip (To.blockN (To.thenN (rg [0,1,5] [] [(0,rs4 v0),(1,rs4 v1),(5,vi (IntKind.wrap .i64 (v5 + 1)))] [] (kt [0,1,5] [] [(0,rs4 v0),(1,rs4 v1),(5,vi (IntKind.wrap .i64 (v5 + 1)))] [] (To.again ?_)))))
    exact ih (IntKind.wrap .i64 (v5 + 1)) _ h hQ
  ·refine Wp.exit (To.thenX (To.thenX (kt [] [] [] [] ?_)))
   cases h
   exact hQ
def ref12_Same (n:Nat) (a0:List (S_api_Var)) (a1:List (S_api_Var)):Option (Bool) :=
 if ((List.length a0:Int) != (List.length a1:Int)) = true then some false
 else ((ref12_Same_l1 n a0 a1 n 0).bind fun o1 =>
 (Sum.elim (fun o1=>some true) (fun o1=>some o1)) o1)
theorem ok_ref12_Same (n:Nat) (a0:List (S_api_Var)) (a1:List (S_api_Var)) (r:Bool) (h:ref12_Same n a0 a1 = some r):CallsX Tryd.prog 21 [rs4 a0,rs4 a1] (vb r):=by
 unfold ref12_Same at h
 refine xo Tryd.f21 rfl fun F0 w0 _=>?_
 refine Wp.seq (rg [0,1] [] [(0,rs4 a0),(1,rs4 a1)] [] (To.thenN (Wp.seq (Wp.seq (rg [0,1,10] [] [(0,rs4 a0),(1,rs4 a1),(10,vb ((List.length a0:Int) != (List.length a1:Int)))] [] (To.thenN (cn h (fun h=>?_) (fun h=>?_))))))))
 ·refine Wp.seq (rg [4] [] [(4,vb false)] [] (To.thenN (Wp.ret (To.thenR ?_))))
  cases h
  exact To.done hΓ (by kernel_rfl)
 ·refine Wp.skip (To.thenN (Wp.seq (Wp.seq (rg [0,1,5] [] [(0,rs4 a0),(1,rs4 a1),(5,vi 0)] [] (To.thenN (Wp.block ?_))))))
  obtain ⟨o1,ho1,h⟩:=bind_of h
  refine kw [0,1,5] [] [(0,rs4 a0),(1,rs4 a1),(5,vi 0)] [] (Wp.loopL (ok_ref12_Same_l1 n a0 a1 n 0 o1 ho1 ?_))
  rcases o1 with o1 | o1
  ·replace h:=sum_l h
   refine To.blockX (To.thenN (Wp.seq (rg [4] [] [(4,vb true)] [] (To.thenN (Wp.ret ?_)))))
   cases h
   exact To.done hΓ (by kernel_rfl)
  ·replace h:=sum_r h
   refine To.blockR (To.thenR ?_)
   cases h
   exact To.done hΓ (by kernel_rfl)
def law12_awake (n:Nat):Option (Bool) :=
 (env_Parse n [35,32,97,10,101,120,112,111,114,116,32,88,61,49,32,35,32,115,111,10,89,61,39,97,32,98,39,10]).bind fun r1 =>
 (env_Parse n [88,61,49,10,89,10]).bind fun r2 =>
 ((if ((r1.2.2 == 0) == true) = true then ref12_Same n r1.1 ([(S_api_Var.mk [88] [49]),(S_api_Var.mk [89] [97,32,98])]) else some false)).bind fun r3 =>
 some (bif (bif (bif (r1.2.2 == 0) then r3 else false) then (r2.2.1 == 2) else false) then (r2.2.2 == 3) else false)
theorem ok_law12_awake (n:Nat) (r:Bool) (h:law12_awake n = some r):CallsX Tryd.prog 18 [] (vb r):=by
 unfold law12_awake at h
 refine xo Tryd.f18 rfl fun F0 w0 _=>?_
 refine Wp.seq (rg [] [] [] [] (To.thenN (Wp.seq ?_)))
 obtain ⟨r1,hr1,h⟩:=bind_of h
 refine rc [] 0 [1,3] [] [(1,rs4 r1.1),(3,vi r1.2.2)] [] (ok_env_Parse n [35,32,97,10,101,120,112,111,114,116,32,88,61,49,32,35,32,115,111,10,89,61,39,97,32,98,39,10] _ hr1) (To.thenN (Wp.seq ?_))
 obtain ⟨r2,hr2,h⟩:=bind_of h
 refine rc [] 0 [1,3,5,6] [] [(1,rs4 r1.1),(3,vi r1.2.2),(5,vi r2.2.1),(6,vi r2.2.2)] [] (ok_env_Parse n [88,61,49,10,89,10] _ hr2) (To.thenN (Wp.seq ?_))
 obtain ⟨r3,hr3,h⟩:=bind_of h
 refine rr [] [(6,rs4 ([(S_api_Var.mk [88] [49]),(S_api_Var.mk [89] [97,32,98])])),(7,vb r3)] [] [0] [] [(0,vb (bif (bif (bif (r1.2.2 == 0) then r3 else false) then (r2.2.1 == 2) else false) then (r2.2.2 == 3) else false))] [] [(((r1.2.2 == 0) == true) = true → MkOb 2 [.str [88],.str [49],.str [89],.str [97,32,98]] 2 (rs4 ([(S_api_Var.mk [88] [49]),(S_api_Var.mk [89] [97,32,98])])) ∧ GoodR (rs4 ([(S_api_Var.mk [88] [49]),(S_api_Var.mk [89] [97,32,98])]))),(((r1.2.2 == 0) == true) = true → CX Tryd.prog 21 [rs4 r1.1,rs4 ([(S_api_Var.mk [88] [49]),(S_api_Var.mk [89] [97,32,98])])] (vb r3))] (AllP.cons (fun _=>mkOb (by kernel_rfl) rfl (by kernel_rfl) (good_E_api_Var _)) (AllP.cons (fun hg=>cx (ok_ref12_Same n r1.1 ([(S_api_Var.mk [88] [49]),(S_api_Var.mk [89] [97,32,98])]) _ (if_t hg hr3))) AllP.nil)) (To.thenN (Wp.ret ?_))
 cases h
 exact To.done hΓ (by kernel_rfl)
def ref06_value (a0:Int):Int :=
 if (bif (decide (a0 ≥ 48)) then (decide (a0 ≤ 57)) else false) = true then ((IntKind.wrap .i64 ((IntKind.wrap .i64 (a0)) - 48)))
 else (if (bif (decide (a0 ≥ 97)) then (decide (a0 ≤ 102)) else false) = true then ((IntKind.wrap .i64 ((IntKind.wrap .i64 (a0)) - 87)))
 else (if (bif (decide (a0 ≥ 65)) then (decide (a0 ≤ 70)) else false) = true then ((IntKind.wrap .i64 ((IntKind.wrap .i64 (a0)) - 55)))
 else 16))
end Go.Proofs.YtibgdilkodjojaaDoor.M
