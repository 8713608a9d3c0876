import Derived.Test.YtibgdilkodjojaaGreatDoorQMG14b
import Derived.Test.YtibgdilkodjojaaGreatDoorQRxRec
set_option linter.all false
namespace Go.Proofs.YtibgdilkodjojaaGreatDoor.M
open Go.RowKit Go.Proofs.YtibgdilkodjojaaGreatDoor.RX
set_option maxRecDepth 100000
def faultC (x:S_subst_fault):Value:=.agg #[.int .i64 x.f_e,.string ⟨x.f_key.toArray⟩,.string ⟨x.f_why.toArray⟩]
def faultV (x:S_subst_fault):Value:=.iface 111 (faultC x)
theorem faultV_of {F:Fz} {w:World} {B:Env} {v:Value} (e:Int) (k y:List UInt8) (h:Rep F w B (.agg [.val (.int .i64 e),.str k,.str y]) v):v = faultC ⟨e,k,y⟩:=by
 cases h with
 | agg _ vs h=>cases h with
  | cons _ _ _ _ h1 h=>cases h with
   | cons _ _ _ _ h2 h=>cases h with
    | cons _ _ _ _ h3 h=>cases h; cases h1; cases h2; cases h3; rfl
def p_subst_with_part__o0_j1 (R_subst_with_parts__o0:(List (S_tmpl_Part)) → S_subst_with → Option ((List UInt8) × S_subst_with)) (P_parts:(List (S_tmpl_Part)) → S_subst_with → Option (S_subst_fault × S_subst_with)) (n:Nat) (v5:List UInt8) (v6:Bool) (v7:Bool) (v29:Int) (b3:S_tmpl_Part) (b1000000:S_subst_with):Option (S_subst_fault × S_subst_with) :=
 if (v29 == 2) = true then (if (!v7) = true then (P_parts b3.f_Sub b1000000)
 else none)
 else (if (v29 == 3) = true then (if (!v6) = true then (P_parts b3.f_Sub b1000000)
 else none)
 else ((subst_with_part__o0_j2 R_subst_with_parts__o0 n v5 v6 v7 v29 (v29 == 4) b3 b1000000).bind fun o4 =>
 if o4 = true then (if (bif (!v6) then true else (bif (b3.f_Op == 4) then (!v7) else false)) = true then ((tmpl_Text n b3.f_Sub).bind fun t=>some (S_subst_fault.mk 4 b3.f_Name t,b1000000))
 else none)
 else ((subst_with_part__o0_j3 R_subst_with_parts__o0 n v5 v6 v7 v29 (v29 == 6) b3 b1000000).bind fun o5 =>
 if o5 = true then (if (bif (!v6) then true else (bif (b3.f_Op == 6) then (!v7) else false)) = true then none
 else (P_parts b3.f_Sub b1000000))
 else none)))
theorem pan_subst_with_part__o0_j1 (R_subst_with_parts__o0:(List (S_tmpl_Part)) → S_subst_with → Option ((List UInt8) × S_subst_with)) (hR_subst_with_parts__o0:∀ (a1:List (S_tmpl_Part)) (h0:S_subst_with) (r:(List UInt8) × S_subst_with),R_subst_with_parts__o0 a1 h0 = some r → CallsB Tryz.prog 91 [.own 1000000 0,.recs (α:=S_tmpl_Part) (S_tmpl_Part.mk [] [] 0 []) E_tmpl_Part a1] [(1000000,134,[.recs (α:=S_api_Var) (S_api_Var.mk [] []) E_api_Var h0.f_e])] (.str r.1) [(1000000,134,[.recs (α:=S_api_Var) (S_api_Var.mk [] []) E_api_Var r.2.f_e])]) (P_parts:(List (S_tmpl_Part)) → S_subst_with → Option (S_subst_fault × S_subst_with)) (hP_parts:∀ (a1:List (S_tmpl_Part)) (h0:S_subst_with) (r:S_subst_fault × S_subst_with),P_parts a1 h0 = some r → PanB Tryz.prog 91 [.own 1000000 0,.recs (α:=S_tmpl_Part) (S_tmpl_Part.mk [] [] 0 []) E_tmpl_Part a1] [(1000000,134,[.recs (α:=S_api_Var) (S_api_Var.mk [] []) E_api_Var h0.f_e])] (faultV r.1) [(1000000,134,[.recs (α:=S_api_Var) (S_api_Var.mk [] []) E_api_Var r.2.f_e])]) (n:Nat) (v5:List UInt8) (v6:Bool) (v7:Bool) (v29:Int) (b3:S_tmpl_Part) (b1000000:S_subst_with) (o:S_subst_fault × S_subst_with) (h:p_subst_with_part__o0_j1 R_subst_with_parts__o0 P_parts n v5 v6 v7 v29 b3 b1000000 = some o) {F0:Fz} {w0:Pt Tryz.prog} {Q:Exit → Act → World → Prop} (hQ:To 86 F0 w0 [] [(1000000,134,[.recs (α:=S_api_Var) (S_api_Var.mk [] []) E_api_Var o.2.f_e])] (.panic [{ v:=faultV o.1,recovered:=false }]) Q):Wp Tryz.prog 86 F0 w0 [(0,.own 1000000 0),(3,.own 3 0),(5,.str v5),(6,.val (.bool v6)),(7,.val (.bool v7)),(29,.val (.int .i64 v29))] [(3,91,[.str b3.f_Name,.str b3.f_Text,.val (.int .i64 b3.f_Op),.tree (α:=S_tmpl_Part) (S_tmpl_Part.mk [] [] 0 []) pre_S_tmpl_Part kids_S_tmpl_Part b3.f_Sub]),(1000000,134,[.recs (α:=S_api_Var) (S_api_Var.mk [] []) E_api_Var b1000000.f_e])] (cB (cA (cB (cB (cB (cB (cF Tryz.f123))))))) Q:=by
 unfold p_subst_with_part__o0_j1 at h
 refine Wp.block ?_
 refine Wp.seq ?_
 refine Wp.region hΓ [] [] [] [0,3,5,6,7,29,30] [3,1000000] (K':=[(0,.own 1000000 0),(3,.own 3 0),(5,.str v5),(6,.val (.bool v6)),(7,.val (.bool v7)),(29,.val (.int .i64 v29)),(30,.val (.bool (v29 == 2)))]) (L':=[(3,91,[.str b3.f_Name,.str b3.f_Text,.val (.int .i64 b3.f_Op),.tree (α:=S_tmpl_Part) (S_tmpl_Part.mk [] [] 0 []) pre_S_tmpl_Part kids_S_tmpl_Part b3.f_Sub]),(1000000,134,[.recs (α:=S_api_Var) (S_api_Var.mk [] []) E_api_Var b1000000.f_e])]) (ob:=[]) (by kernel_rfl) AllP.nil ?_
 refine To.thenN ?_
 refine Wp.cond (b:=(v29 == 2)) (by kernel_rfl) (fun hb=>?_) (fun hb=>?_)
 ·replace h:=if_t hb h
  refine Wp.seq ?_
  refine Wp.region hΓ [] [] [] [0,3,5,33] [3,1000000] (K':=[(0,.own 1000000 0),(3,.own 3 0),(5,.str v5),(33,.val (.bool (!v7)))]) (L':=[(3,91,[.str b3.f_Name,.str b3.f_Text,.val (.int .i64 b3.f_Op),.tree (α:=S_tmpl_Part) (S_tmpl_Part.mk [] [] 0 []) pre_S_tmpl_Part kids_S_tmpl_Part b3.f_Sub]),(1000000,134,[.recs (α:=S_api_Var) (S_api_Var.mk [] []) E_api_Var b1000000.f_e])]) (ob:=[]) (by kernel_rfl) AllP.nil ?_
  refine To.thenN ?_
  refine Wp.cond (b:=(!v7)) (by kernel_rfl) (fun hb=>?_) (fun hb=>?_)
  ·replace h:=if_t hb h
   refine Wp.seq ?_
   exact Wp.regionPan hΓ 3 [] [] [] ⟨[(1000000,1000000)],[(1000000,1000000)],[.own 1000000 0,.recs (α:=S_tmpl_Part) (S_tmpl_Part.mk [] [] 0 []) E_tmpl_Part b3.f_Sub],[(1000000,134,[.recs (α:=S_api_Var) (S_api_Var.mk [] []) E_api_Var b1000000.f_e])],.hole,[(1000000,134,[.recs (α:=S_api_Var) (S_api_Var.mk [] []) E_api_Var o.2.f_e])]⟩ [] [1000000] (K':=[]) (L':=[(1000000,134,[.recs (α:=S_api_Var) (S_api_Var.mk [] []) E_api_Var o.2.f_e])]) (ob:=[PanOb Tryz.prog (faultV o.1) ⟨[(1000000,1000000)],[(1000000,1000000)],[.own 1000000 0,.recs (α:=S_tmpl_Part) (S_tmpl_Part.mk [] [] 0 []) E_tmpl_Part b3.f_Sub],[(1000000,134,[.recs (α:=S_api_Var) (S_api_Var.mk [] []) E_api_Var b1000000.f_e])],.hole,[(1000000,134,[.recs (α:=S_api_Var) (S_api_Var.mk [] []) E_api_Var o.2.f_e])]⟩ 91 [.own 1000000 0,.recs (α:=S_tmpl_Part) (S_tmpl_Part.mk [] [] 0 []) E_tmpl_Part b3.f_Sub] [some (134,[.recs (α:=S_api_Var) (S_api_Var.mk [] []) E_api_Var b1000000.f_e])]]) (by kernel_rfl) (AllP.cons ⟨hP_parts b3.f_Sub b1000000 _ h,by kernel_rfl,by kernel_rfl⟩ AllP.nil) hQ
  ·replace h:=if_f hb h
   refine Wp.skip ?_
   refine To.blockN ?_
   refine To.keep (kk:=[5]) (kl:=[1000000]) (K':=[(5,.str v5)]) (L':=[(1000000,134,[.recs (α:=S_api_Var) (S_api_Var.mk [] []) E_api_Var b1000000.f_e])]) (by kernel_rfl) (by kernel_rfl) ?_
   cases h
 ·replace h:=if_f hb h
  refine Wp.seq ?_
  refine Wp.region hΓ [] [] [] [0,3,5,6,7,29,38] [3,1000000] (K':=[(0,.own 1000000 0),(3,.own 3 0),(5,.str v5),(6,.val (.bool v6)),(7,.val (.bool v7)),(29,.val (.int .i64 v29)),(38,.val (.bool (v29 == 3)))]) (L':=[(3,91,[.str b3.f_Name,.str b3.f_Text,.val (.int .i64 b3.f_Op),.tree (α:=S_tmpl_Part) (S_tmpl_Part.mk [] [] 0 []) pre_S_tmpl_Part kids_S_tmpl_Part b3.f_Sub]),(1000000,134,[.recs (α:=S_api_Var) (S_api_Var.mk [] []) E_api_Var b1000000.f_e])]) (ob:=[]) (by kernel_rfl) AllP.nil ?_
  refine To.thenN ?_
  refine Wp.cond (b:=(v29 == 3)) (by kernel_rfl) (fun hb=>?_) (fun hb=>?_)
  ·replace h:=if_t hb h
   refine Wp.seq ?_
   refine Wp.region hΓ [] [] [] [0,3,5,41] [3,1000000] (K':=[(0,.own 1000000 0),(3,.own 3 0),(5,.str v5),(41,.val (.bool (!v6)))]) (L':=[(3,91,[.str b3.f_Name,.str b3.f_Text,.val (.int .i64 b3.f_Op),.tree (α:=S_tmpl_Part) (S_tmpl_Part.mk [] [] 0 []) pre_S_tmpl_Part kids_S_tmpl_Part b3.f_Sub]),(1000000,134,[.recs (α:=S_api_Var) (S_api_Var.mk [] []) E_api_Var b1000000.f_e])]) (ob:=[]) (by kernel_rfl) AllP.nil ?_
   refine To.thenN ?_
   refine Wp.cond (b:=(!v6)) (by kernel_rfl) (fun hb=>?_) (fun hb=>?_)
   ·replace h:=if_t hb h
    refine Wp.seq ?_
    exact Wp.regionPan hΓ 3 [] [] [] ⟨[(1000000,1000000)],[(1000000,1000000)],[.own 1000000 0,.recs (α:=S_tmpl_Part) (S_tmpl_Part.mk [] [] 0 []) E_tmpl_Part b3.f_Sub],[(1000000,134,[.recs (α:=S_api_Var) (S_api_Var.mk [] []) E_api_Var b1000000.f_e])],.hole,[(1000000,134,[.recs (α:=S_api_Var) (S_api_Var.mk [] []) E_api_Var o.2.f_e])]⟩ [] [1000000] (K':=[]) (L':=[(1000000,134,[.recs (α:=S_api_Var) (S_api_Var.mk [] []) E_api_Var o.2.f_e])]) (ob:=[PanOb Tryz.prog (faultV o.1) ⟨[(1000000,1000000)],[(1000000,1000000)],[.own 1000000 0,.recs (α:=S_tmpl_Part) (S_tmpl_Part.mk [] [] 0 []) E_tmpl_Part b3.f_Sub],[(1000000,134,[.recs (α:=S_api_Var) (S_api_Var.mk [] []) E_api_Var b1000000.f_e])],.hole,[(1000000,134,[.recs (α:=S_api_Var) (S_api_Var.mk [] []) E_api_Var o.2.f_e])]⟩ 91 [.own 1000000 0,.recs (α:=S_tmpl_Part) (S_tmpl_Part.mk [] [] 0 []) E_tmpl_Part b3.f_Sub] [some (134,[.recs (α:=S_api_Var) (S_api_Var.mk [] []) E_api_Var b1000000.f_e])]]) (by kernel_rfl) (AllP.cons ⟨hP_parts b3.f_Sub b1000000 _ h,by kernel_rfl,by kernel_rfl⟩ AllP.nil) hQ
   ·replace h:=if_f hb h
    refine Wp.skip ?_
    refine To.blockN ?_
    refine To.keep (kk:=[5]) (kl:=[1000000]) (K':=[(5,.str v5)]) (L':=[(1000000,134,[.recs (α:=S_api_Var) (S_api_Var.mk [] []) E_api_Var b1000000.f_e])]) (by kernel_rfl) (by kernel_rfl) ?_
    cases h
  ·replace h:=if_f hb h
   refine Wp.seq ?_
   refine Wp.seq ?_
   refine Wp.region hΓ [] [] [] [0,3,5,6,7,29,46] [3,1000000] (K':=[(0,.own 1000000 0),(3,.own 3 0),(5,.str v5),(6,.val (.bool v6)),(7,.val (.bool v7)),(29,.val (.int .i64 v29)),(46,.val (.bool (v29 == 4)))]) (L':=[(3,91,[.str b3.f_Name,.str b3.f_Text,.val (.int .i64 b3.f_Op),.tree (α:=S_tmpl_Part) (S_tmpl_Part.mk [] [] 0 []) pre_S_tmpl_Part kids_S_tmpl_Part b3.f_Sub]),(1000000,134,[.recs (α:=S_api_Var) (S_api_Var.mk [] []) E_api_Var b1000000.f_e])]) (ob:=[]) (by kernel_rfl) AllP.nil ?_
   refine To.thenN ?_
   obtain ⟨o4,ho4,h⟩:=bind_of h
   refine Wp.keep (kk:=[0,3,5,6,7,29,46]) (kl:=[3,1000000]) (K':=[(0,.own 1000000 0),(3,.own 3 0),(5,.str v5),(6,.val (.bool v6)),(7,.val (.bool v7)),(29,.val (.int .i64 v29)),(46,.val (.bool (v29 == 4)))]) (L':=[(3,91,[.str b3.f_Name,.str b3.f_Text,.val (.int .i64 b3.f_Op),.tree (α:=S_tmpl_Part) (S_tmpl_Part.mk [] [] 0 []) pre_S_tmpl_Part kids_S_tmpl_Part b3.f_Sub]),(1000000,134,[.recs (α:=S_api_Var) (S_api_Var.mk [] []) E_api_Var b1000000.f_e])]) (by kernel_rfl) (by kernel_rfl) ?_
   refine ok_subst_with_part__o0_j2 R_subst_with_parts__o0 hR_subst_with_parts__o0 n v5 v6 v7 v29 (v29 == 4) b3 b1000000 o4 ho4 ?_
   refine To.thenN ?_
   refine Wp.cond (b:=o4) (by kernel_rfl) (fun hb=>?_) (fun hb=>?_)
   ·replace h:=if_t hb h
    refine Wp.seq ?_
    refine Wp.region hΓ [] [] [] [3,5,59] [3,1000000] (K':=[(3,.own 3 0),(5,.str v5),(59,.val (.bool (bif (!v6) then true else (bif (b3.f_Op == 4) then (!v7) else false))))]) (L':=[(3,91,[.str b3.f_Name,.str b3.f_Text,.val (.int .i64 b3.f_Op),.tree (α:=S_tmpl_Part) (S_tmpl_Part.mk [] [] 0 []) pre_S_tmpl_Part kids_S_tmpl_Part b3.f_Sub]),(1000000,134,[.recs (α:=S_api_Var) (S_api_Var.mk [] []) E_api_Var b1000000.f_e])]) (ob:=[]) (by kernel_rfl) AllP.nil ?_
    refine To.thenN ?_
    refine Wp.cond (b:=(bif (!v6) then true else (bif (b3.f_Op == 4) then (!v7) else false))) (by kernel_rfl) (fun hb=>?_) (fun hb=>?_)
    ·replace h:=if_t hb h
     obtain ⟨t,ht,h⟩:=bind_of h
     cases h
     exact Wp.regionPanS hm hΓ [(4,.str t)] [1000000] (d:=.agg [.val (.int .i64 4),.str b3.f_Name,.str t]) (L':=[(1000000,134,[.recs (α:=S_api_Var) (S_api_Var.mk [] []) E_api_Var b1000000.f_e])]) (T:=111) (ob:=[(true = true → CX Tryz.prog 142 [.recs (α:=S_tmpl_Part) (S_tmpl_Part.mk [] [] 0 []) E_tmpl_Part b3.f_Sub] (.str t))]) (by kernel_rfl) (AllP.cons (fun _=>cx (ok_tmpl_Text n b3.f_Sub _ ht)) AllP.nil) (by kernel_rfl) (fun _ _ _ _ hr=>faultV_of 4 b3.f_Name t hr) hQ
    ·replace h:=if_f hb h
     refine Wp.skip ?_
     refine To.blockN ?_
     refine To.keep (kk:=[5]) (kl:=[1000000]) (K':=[(5,.str v5)]) (L':=[(1000000,134,[.recs (α:=S_api_Var) (S_api_Var.mk [] []) E_api_Var b1000000.f_e])]) (by kernel_rfl) (by kernel_rfl) ?_
     cases h
   ·replace h:=if_f hb h
    refine Wp.seq ?_
    refine Wp.seq ?_
    refine Wp.region hΓ [] [] [] [0,3,5,6,7,29,67] [3,1000000] (K':=[(0,.own 1000000 0),(3,.own 3 0),(5,.str v5),(6,.val (.bool v6)),(7,.val (.bool v7)),(29,.val (.int .i64 v29)),(67,.val (.bool (v29 == 6)))]) (L':=[(3,91,[.str b3.f_Name,.str b3.f_Text,.val (.int .i64 b3.f_Op),.tree (α:=S_tmpl_Part) (S_tmpl_Part.mk [] [] 0 []) pre_S_tmpl_Part kids_S_tmpl_Part b3.f_Sub]),(1000000,134,[.recs (α:=S_api_Var) (S_api_Var.mk [] []) E_api_Var b1000000.f_e])]) (ob:=[]) (by kernel_rfl) AllP.nil ?_
    refine To.thenN ?_
    obtain ⟨o5,ho5,h⟩:=bind_of h
    refine Wp.keep (kk:=[0,3,5,6,7,29,67]) (kl:=[3,1000000]) (K':=[(0,.own 1000000 0),(3,.own 3 0),(5,.str v5),(6,.val (.bool v6)),(7,.val (.bool v7)),(29,.val (.int .i64 v29)),(67,.val (.bool (v29 == 6)))]) (L':=[(3,91,[.str b3.f_Name,.str b3.f_Text,.val (.int .i64 b3.f_Op),.tree (α:=S_tmpl_Part) (S_tmpl_Part.mk [] [] 0 []) pre_S_tmpl_Part kids_S_tmpl_Part b3.f_Sub]),(1000000,134,[.recs (α:=S_api_Var) (S_api_Var.mk [] []) E_api_Var b1000000.f_e])]) (by kernel_rfl) (by kernel_rfl) ?_
    refine ok_subst_with_part__o0_j3 R_subst_with_parts__o0 hR_subst_with_parts__o0 n v5 v6 v7 v29 (v29 == 6) b3 b1000000 o5 ho5 ?_
    refine To.thenN ?_
    refine Wp.cond (b:=o5) (by kernel_rfl) (fun hb=>?_) (fun hb=>?_)
    ·replace h:=if_t hb h
     refine Wp.seq ?_
     refine Wp.seq ?_
     refine Wp.region hΓ [] [] [] [0,3,80] [3,1000000] (K':=[(0,.own 1000000 0),(3,.own 3 0),(80,.val (.bool (bif (!v6) then true else (bif (b3.f_Op == 6) then (!v7) else false))))]) (L':=[(3,91,[.str b3.f_Name,.str b3.f_Text,.val (.int .i64 b3.f_Op),.tree (α:=S_tmpl_Part) (S_tmpl_Part.mk [] [] 0 []) pre_S_tmpl_Part kids_S_tmpl_Part b3.f_Sub]),(1000000,134,[.recs (α:=S_api_Var) (S_api_Var.mk [] []) E_api_Var b1000000.f_e])]) (ob:=[]) (by kernel_rfl) AllP.nil ?_
     refine To.thenN ?_
     refine Wp.cond (b:=(bif (!v6) then true else (bif (b3.f_Op == 6) then (!v7) else false))) (by kernel_rfl) (fun hb=>?_) (fun hb=>?_)
     ·replace h:=if_t hb h
      refine Wp.seq ?_
      refine Wp.region hΓ [] [] [] [4] [1000000] (K':=[(4,.str [])]) (L':=[(1000000,134,[.recs (α:=S_api_Var) (S_api_Var.mk [] []) E_api_Var b1000000.f_e])]) (ob:=[]) (by kernel_rfl) AllP.nil ?_
      refine To.thenN ?_
      refine Wp.ret ?_
      refine To.thenR ?_
      refine To.blockR ?_
      refine To.keep (kk:=[4]) (kl:=[1000000]) (K':=[(4,.str [])]) (L':=[(1000000,134,[.recs (α:=S_api_Var) (S_api_Var.mk [] []) E_api_Var b1000000.f_e])]) (by kernel_rfl) (by kernel_rfl) ?_
      cases h
     ·replace h:=if_f hb h
      refine Wp.skip ?_
      refine To.thenN ?_
      refine Wp.seq ?_
      exact Wp.regionPan hΓ 3 [] [] [] ⟨[(1000000,1000000)],[(1000000,1000000)],[.own 1000000 0,.recs (α:=S_tmpl_Part) (S_tmpl_Part.mk [] [] 0 []) E_tmpl_Part b3.f_Sub],[(1000000,134,[.recs (α:=S_api_Var) (S_api_Var.mk [] []) E_api_Var b1000000.f_e])],.hole,[(1000000,134,[.recs (α:=S_api_Var) (S_api_Var.mk [] []) E_api_Var o.2.f_e])]⟩ [] [1000000] (K':=[]) (L':=[(1000000,134,[.recs (α:=S_api_Var) (S_api_Var.mk [] []) E_api_Var o.2.f_e])]) (ob:=[PanOb Tryz.prog (faultV o.1) ⟨[(1000000,1000000)],[(1000000,1000000)],[.own 1000000 0,.recs (α:=S_tmpl_Part) (S_tmpl_Part.mk [] [] 0 []) E_tmpl_Part b3.f_Sub],[(1000000,134,[.recs (α:=S_api_Var) (S_api_Var.mk [] []) E_api_Var b1000000.f_e])],.hole,[(1000000,134,[.recs (α:=S_api_Var) (S_api_Var.mk [] []) E_api_Var o.2.f_e])]⟩ 91 [.own 1000000 0,.recs (α:=S_tmpl_Part) (S_tmpl_Part.mk [] [] 0 []) E_tmpl_Part b3.f_Sub] [some (134,[.recs (α:=S_api_Var) (S_api_Var.mk [] []) E_api_Var b1000000.f_e])]]) (by kernel_rfl) (AllP.cons ⟨hP_parts b3.f_Sub b1000000 _ h,by kernel_rfl,by kernel_rfl⟩ AllP.nil) hQ
    ·replace h:=if_f hb h
     refine Wp.skip ?_
     refine To.blockN ?_
     refine To.keep (kk:=[5]) (kl:=[1000000]) (K':=[(5,.str v5)]) (L':=[(1000000,134,[.recs (α:=S_api_Var) (S_api_Var.mk [] []) E_api_Var b1000000.f_e])]) (by kernel_rfl) (by kernel_rfl) ?_
     cases h
def p_subst_with_part__o0 (R_subst_with_parts__o0:(List (S_tmpl_Part)) → S_subst_with → Option ((List UInt8) × S_subst_with)) (P_parts:(List (S_tmpl_Part)) → S_subst_with → Option (S_subst_fault × S_subst_with)) (n:Nat) (a1:S_tmpl_Part) (h0:S_subst_with):Option (S_subst_fault × S_subst_with) :=
 if (a1.f_Op == 0) = true then none
 else ((env_Get n h0.f_e a1.f_Name).bind fun r1 =>
 (p_subst_with_part__o0_j1 R_subst_with_parts__o0 P_parts n r1.1 r1.2 (bif r1.2 then (!(r1.1 == [])) else false) a1.f_Op a1 h0))
theorem pan_subst_with_part__o0 (R_subst_with_parts__o0:(List (S_tmpl_Part)) → S_subst_with → Option ((List UInt8) × S_subst_with)) (hR_subst_with_parts__o0:∀ (a1:List (S_tmpl_Part)) (h0:S_subst_with) (r:(List UInt8) × S_subst_with),R_subst_with_parts__o0 a1 h0 = some r → CallsB Tryz.prog 91 [.own 1000000 0,.recs (α:=S_tmpl_Part) (S_tmpl_Part.mk [] [] 0 []) E_tmpl_Part a1] [(1000000,134,[.recs (α:=S_api_Var) (S_api_Var.mk [] []) E_api_Var h0.f_e])] (.str r.1) [(1000000,134,[.recs (α:=S_api_Var) (S_api_Var.mk [] []) E_api_Var r.2.f_e])]) (P_parts:(List (S_tmpl_Part)) → S_subst_with → Option (S_subst_fault × S_subst_with)) (hP_parts:∀ (a1:List (S_tmpl_Part)) (h0:S_subst_with) (r:S_subst_fault × S_subst_with),P_parts a1 h0 = some r → PanB Tryz.prog 91 [.own 1000000 0,.recs (α:=S_tmpl_Part) (S_tmpl_Part.mk [] [] 0 []) E_tmpl_Part a1] [(1000000,134,[.recs (α:=S_api_Var) (S_api_Var.mk [] []) E_api_Var h0.f_e])] (faultV r.1) [(1000000,134,[.recs (α:=S_api_Var) (S_api_Var.mk [] []) E_api_Var r.2.f_e])]) (n:Nat) (a1:S_tmpl_Part) (h0:S_subst_with) (r:S_subst_fault × S_subst_with) (h:p_subst_with_part__o0 R_subst_with_parts__o0 P_parts n a1 h0 = some r):PanB Tryz.prog 123 [.own 1000000 0,.agg [.str a1.f_Name,.str a1.f_Text,.val (.int .i64 a1.f_Op),.tree (α:=S_tmpl_Part) (S_tmpl_Part.mk [] [] 0 []) pre_S_tmpl_Part kids_S_tmpl_Part a1.f_Sub]] [(1000000,134,[.recs (α:=S_api_Var) (S_api_Var.mk [] []) E_api_Var h0.f_e])] (faultV r.1) [(1000000,134,[.recs (α:=S_api_Var) (S_api_Var.mk [] []) E_api_Var r.2.f_e])]:=by
 unfold p_subst_with_part__o0 at h
 refine panB_of (fn:=Tryz.f123) (by kernel_rfl) rfl (by kernel_rfl) (Nat.le_of_ble_eq_true (by kernel_rfl)) fun F0 w0=>?_
 refine Wp.keep (kk:=[0,1]) (kl:=[1000000]) (K':=[(0,.own 1000000 0),(1,.agg [.str a1.f_Name,.str a1.f_Text,.val (.int .i64 a1.f_Op),.tree (α:=S_tmpl_Part) (S_tmpl_Part.mk [] [] 0 []) pre_S_tmpl_Part kids_S_tmpl_Part a1.f_Sub])]) (L':=[(1000000,134,[.recs (α:=S_api_Var) (S_api_Var.mk [] []) E_api_Var h0.f_e])]) (by kernel_rfl) (by kernel_rfl) ?_
 refine Wp.seq ?_
 refine Wp.region hΓ [] [] [] [0,3] [3,1000000] (K':=[(0,.own 1000000 0),(3,.own 3 0)]) (L':=[(3,91,[.str a1.f_Name,.str a1.f_Text,.val (.int .i64 a1.f_Op),.tree (α:=S_tmpl_Part) (S_tmpl_Part.mk [] [] 0 []) pre_S_tmpl_Part kids_S_tmpl_Part a1.f_Sub]),(1000000,134,[.recs (α:=S_api_Var) (S_api_Var.mk [] []) E_api_Var h0.f_e])]) (ob:=[]) (by kernel_rfl) AllP.nil ?_
 refine To.thenN ?_
 refine Wp.seq ?_
 refine Wp.seq ?_
 refine Wp.region hΓ [] [] [] [0,3,10] [3,1000000] (K':=[(0,.own 1000000 0),(3,.own 3 0),(10,.val (.bool (a1.f_Op == 0)))]) (L':=[(3,91,[.str a1.f_Name,.str a1.f_Text,.val (.int .i64 a1.f_Op),.tree (α:=S_tmpl_Part) (S_tmpl_Part.mk [] [] 0 []) pre_S_tmpl_Part kids_S_tmpl_Part a1.f_Sub]),(1000000,134,[.recs (α:=S_api_Var) (S_api_Var.mk [] []) E_api_Var h0.f_e])]) (ob:=[]) (by kernel_rfl) AllP.nil ?_
 refine To.thenN ?_
 refine Wp.cond (b:=(a1.f_Op == 0)) (by kernel_rfl) (fun hb=>?_) (fun hb=>?_)
 ·replace h:=if_t hb h
  refine Wp.seq ?_
  refine Wp.region hΓ [] [] [] [4] [1000000] (K':=[(4,.str a1.f_Text)]) (L':=[(1000000,134,[.recs (α:=S_api_Var) (S_api_Var.mk [] []) E_api_Var h0.f_e])]) (ob:=[]) (by kernel_rfl) AllP.nil ?_
  refine To.thenN ?_
  refine Wp.ret ?_
  refine To.thenR ?_
  refine To.keep (kk:=[4]) (kl:=[1000000]) (K':=[(4,.str a1.f_Text)]) (L':=[(1000000,134,[.recs (α:=S_api_Var) (S_api_Var.mk [] []) E_api_Var h0.f_e])]) (by kernel_rfl) (by kernel_rfl) ?_
  cases h
 ·replace h:=if_f hb h
  refine Wp.skip ?_
  refine To.thenN ?_
  refine Wp.seq ?_
  obtain ⟨r1,hr1,h⟩:=bind_of h
  refine Wp.regionD hm hΓ [(6,.tup [.str r1.1,.val (.bool r1.2)])] [0,3,5,6] [3,1000000] (K':=[(0,.own 1000000 0),(3,.own 3 0),(5,.str r1.1),(6,.val (.bool r1.2))]) (L':=[(3,91,[.str a1.f_Name,.str a1.f_Text,.val (.int .i64 a1.f_Op),.tree (α:=S_tmpl_Part) (S_tmpl_Part.mk [] [] 0 []) pre_S_tmpl_Part kids_S_tmpl_Part a1.f_Sub]),(1000000,134,[.recs (α:=S_api_Var) (S_api_Var.mk [] []) E_api_Var h0.f_e])]) (ob:=[(true = true → CX Tryz.prog 16 [.recs (α:=S_api_Var) (S_api_Var.mk [] []) E_api_Var h0.f_e,.str a1.f_Name] (.tup [.str r1.1,.val (.bool r1.2)]))]) (by kernel_rfl) (AllP.cons (fun _=>cx (ok_env_Get n h0.f_e a1.f_Name _ hr1)) AllP.nil) ?_
  refine To.thenN ?_
  refine Wp.seq ?_
  refine Wp.region hΓ [] [] [] [0,3,5,6,7] [3,1000000] (K':=[(0,.own 1000000 0),(3,.own 3 0),(5,.str r1.1),(6,.val (.bool r1.2)),(7,.val (.bool (bif r1.2 then (!(r1.1 == [])) else false)))]) (L':=[(3,91,[.str a1.f_Name,.str a1.f_Text,.val (.int .i64 a1.f_Op),.tree (α:=S_tmpl_Part) (S_tmpl_Part.mk [] [] 0 []) pre_S_tmpl_Part kids_S_tmpl_Part a1.f_Sub]),(1000000,134,[.recs (α:=S_api_Var) (S_api_Var.mk [] []) E_api_Var h0.f_e])]) (ob:=[]) (by kernel_rfl) AllP.nil ?_
  refine To.thenN ?_
  refine Wp.seq ?_
  refine Wp.seq ?_
  refine Wp.region hΓ [] [] [] [0,3,5,6,7,29] [3,1000000] (K':=[(0,.own 1000000 0),(3,.own 3 0),(5,.str r1.1),(6,.val (.bool r1.2)),(7,.val (.bool (bif r1.2 then (!(r1.1 == [])) else false))),(29,.val (.int .i64 a1.f_Op))]) (L':=[(3,91,[.str a1.f_Name,.str a1.f_Text,.val (.int .i64 a1.f_Op),.tree (α:=S_tmpl_Part) (S_tmpl_Part.mk [] [] 0 []) pre_S_tmpl_Part kids_S_tmpl_Part a1.f_Sub]),(1000000,134,[.recs (α:=S_api_Var) (S_api_Var.mk [] []) E_api_Var h0.f_e])]) (ob:=[]) (by kernel_rfl) AllP.nil ?_
  refine To.thenN ?_
  refine Wp.keep (kk:=[0,3,5,6,7,29]) (kl:=[3,1000000]) (K':=[(0,.own 1000000 0),(3,.own 3 0),(5,.str r1.1),(6,.val (.bool r1.2)),(7,.val (.bool (bif r1.2 then (!(r1.1 == [])) else false))),(29,.val (.int .i64 a1.f_Op))]) (L':=[(3,91,[.str a1.f_Name,.str a1.f_Text,.val (.int .i64 a1.f_Op),.tree (α:=S_tmpl_Part) (S_tmpl_Part.mk [] [] 0 []) pre_S_tmpl_Part kids_S_tmpl_Part a1.f_Sub]),(1000000,134,[.recs (α:=S_api_Var) (S_api_Var.mk [] []) E_api_Var h0.f_e])]) (by kernel_rfl) (by kernel_rfl) ?_
  refine pan_subst_with_part__o0_j1 R_subst_with_parts__o0 hR_subst_with_parts__o0 P_parts hP_parts n r1.1 r1.2 (bif r1.2 then (!(r1.1 == [])) else false) a1.f_Op a1 h0 _ h ?_
  exact To.donePan (fn:=Tryz.f123) [1000000] (by kernel_rfl)
def p_subst_with_parts__o0_j2 (R_subst_with_parts__o0:(List (S_tmpl_Part)) → S_subst_with → Option ((List UInt8) × S_subst_with)) (P_parts:(List (S_tmpl_Part)) → S_subst_with → Option (S_subst_fault × S_subst_with)) (n:Nat) (v5:List (UInt8)) (v8:List (S_tmpl_Part)) (v9:Int) (v10:Int) (b1000000:S_subst_with):Option (S_subst_fault × S_subst_with) :=
 if (decide (0 ≤ v10 ∧ v10 < (List.length v8:Int))) = true then (match subst_with_part__o0 R_subst_with_parts__o0 n ((v8)[Int.toNat v10]?.getD (S_tmpl_Part.mk [] [] 0 [])) b1000000 with
 | some r1=>if (decide ((List.length v5 + List.length r1.1) * (1 + 1) ≤ limit)) = true then (if (decide ((List.length (v5 ++ r1.1):Int) > 8192)) = true then some (S_subst_fault.mk 9 [] [],r1.2) else none) else none
 | none=>p_subst_with_part__o0 R_subst_with_parts__o0 P_parts n ((v8)[Int.toNat v10]?.getD (S_tmpl_Part.mk [] [] 0 [])) b1000000) else none
theorem pan_subst_with_parts__o0_j2 (R_subst_with_parts__o0:(List (S_tmpl_Part)) → S_subst_with → Option ((List UInt8) × S_subst_with)) (hR_subst_with_parts__o0:∀ (a1:List (S_tmpl_Part)) (h0:S_subst_with) (r:(List UInt8) × S_subst_with),R_subst_with_parts__o0 a1 h0 = some r → CallsB Tryz.prog 91 [.own 1000000 0,.recs (α:=S_tmpl_Part) (S_tmpl_Part.mk [] [] 0 []) E_tmpl_Part a1] [(1000000,134,[.recs (α:=S_api_Var) (S_api_Var.mk [] []) E_api_Var h0.f_e])] (.str r.1) [(1000000,134,[.recs (α:=S_api_Var) (S_api_Var.mk [] []) E_api_Var r.2.f_e])]) (P_parts:(List (S_tmpl_Part)) → S_subst_with → Option (S_subst_fault × S_subst_with)) (hP_parts:∀ (a1:List (S_tmpl_Part)) (h0:S_subst_with) (r:S_subst_fault × S_subst_with),P_parts a1 h0 = some r → PanB Tryz.prog 91 [.own 1000000 0,.recs (α:=S_tmpl_Part) (S_tmpl_Part.mk [] [] 0 []) E_tmpl_Part a1] [(1000000,134,[.recs (α:=S_api_Var) (S_api_Var.mk [] []) E_api_Var h0.f_e])] (faultV r.1) [(1000000,134,[.recs (α:=S_api_Var) (S_api_Var.mk [] []) E_api_Var r.2.f_e])]) (n:Nat) (v5:List (UInt8)) (v8:List (S_tmpl_Part)) (v9:Int) (v10:Int) (b1000000:S_subst_with) (o:S_subst_fault × S_subst_with) (h:p_subst_with_parts__o0_j2 R_subst_with_parts__o0 P_parts n v5 v8 v9 v10 b1000000 = some o) {F0:Fz} {w0:Pt Tryz.prog} {Q:Exit → Act → World → Prop} (hQ:To 27 F0 w0 [] [(1000000,134,[.recs (α:=S_api_Var) (S_api_Var.mk [] []) E_api_Var o.2.f_e])] (.panic [{ v:=faultV o.1,recovered:=false }]) Q):Wp Tryz.prog 27 F0 w0 [(0,.own 1000000 0),(5,.row 1005),(8,.recs (α:=S_tmpl_Part) (S_tmpl_Part.mk [] [] 0 []) E_tmpl_Part v8),(9,.val (.int .i64 v9)),(10,.val (.int .i64 v10))] [(1005,5,[.rowc false (α:=UInt8) 0 e8 v5]),(1000000,134,[.recs (α:=S_api_Var) (S_api_Var.mk [] []) E_api_Var b1000000.f_e])] (cA (cB (cB (cI (cI (cB (cA (cB (cB (cF Tryz.f91)))))))))) Q:=by
 unfold p_subst_with_parts__o0_j2 at h
 refine Wp.block ?_
 refine Wp.seq ?_
 obtain ⟨hc3,h⟩:=chk_of h
 refine Wp.region hΓ [] [] [] [0,5,7,8,9,10] [7,1005,1000000] (K':=[(0,.own 1000000 0),(5,.row 1005),(7,.own 7 0),(8,.recs (α:=S_tmpl_Part) (S_tmpl_Part.mk [] [] 0 []) E_tmpl_Part v8),(9,.val (.int .i64 v9)),(10,.val (.int .i64 v10))]) (L':=[(7,91,[.str (((v8)[Int.toNat v10]?.getD (S_tmpl_Part.mk [] [] 0 [])).f_Name),.str (((v8)[Int.toNat v10]?.getD (S_tmpl_Part.mk [] [] 0 [])).f_Text),.val (.int .i64 (((v8)[Int.toNat v10]?.getD (S_tmpl_Part.mk [] [] 0 [])).f_Op)),.tree (α:=S_tmpl_Part) (S_tmpl_Part.mk [] [] 0 []) pre_S_tmpl_Part kids_S_tmpl_Part (((v8)[Int.toNat v10]?.getD (S_tmpl_Part.mk [] [] 0 [])).f_Sub)]),(1005,5,[.rowc false (α:=UInt8) 0 e8 v5]),(1000000,134,[.recs (α:=S_api_Var) (S_api_Var.mk [] []) E_api_Var b1000000.f_e])]) (ob:=[(decide (0 ≤ v10 ∧ v10 < (List.length v8:Int))) = true]) (by kernel_rfl) (AllP.cons hc3 AllP.nil) ?_
 refine To.thenN ?_
 refine Wp.seq ?_
 cases hr1:subst_with_part__o0 R_subst_with_parts__o0 n ((v8)[Int.toNat v10]?.getD (S_tmpl_Part.mk [] [] 0 [])) b1000000 with
 | none =>
  rw [hr1] at h
  exact Wp.regionPan hΓ 3 [] [] [] ⟨[(1000000,1000000)],[(1000000,1000000)],[.own 1000000 0,.agg [.str (((v8)[Int.toNat v10]?.getD (S_tmpl_Part.mk [] [] 0 [])).f_Name),.str (((v8)[Int.toNat v10]?.getD (S_tmpl_Part.mk [] [] 0 [])).f_Text),.val (.int .i64 (((v8)[Int.toNat v10]?.getD (S_tmpl_Part.mk [] [] 0 [])).f_Op)),.tree (α:=S_tmpl_Part) (S_tmpl_Part.mk [] [] 0 []) pre_S_tmpl_Part kids_S_tmpl_Part (((v8)[Int.toNat v10]?.getD (S_tmpl_Part.mk [] [] 0 [])).f_Sub)]],[(1000000,134,[.recs (α:=S_api_Var) (S_api_Var.mk [] []) E_api_Var b1000000.f_e])],.hole,[(1000000,134,[.recs (α:=S_api_Var) (S_api_Var.mk [] []) E_api_Var o.2.f_e])]⟩ [] [1000000] (K':=[]) (L':=[(1000000,134,[.recs (α:=S_api_Var) (S_api_Var.mk [] []) E_api_Var o.2.f_e])]) (ob:=[PanOb Tryz.prog (faultV o.1) ⟨[(1000000,1000000)],[(1000000,1000000)],[.own 1000000 0,.agg [.str (((v8)[Int.toNat v10]?.getD (S_tmpl_Part.mk [] [] 0 [])).f_Name),.str (((v8)[Int.toNat v10]?.getD (S_tmpl_Part.mk [] [] 0 [])).f_Text),.val (.int .i64 (((v8)[Int.toNat v10]?.getD (S_tmpl_Part.mk [] [] 0 [])).f_Op)),.tree (α:=S_tmpl_Part) (S_tmpl_Part.mk [] [] 0 []) pre_S_tmpl_Part kids_S_tmpl_Part (((v8)[Int.toNat v10]?.getD (S_tmpl_Part.mk [] [] 0 [])).f_Sub)]],[(1000000,134,[.recs (α:=S_api_Var) (S_api_Var.mk [] []) E_api_Var b1000000.f_e])],.hole,[(1000000,134,[.recs (α:=S_api_Var) (S_api_Var.mk [] []) E_api_Var o.2.f_e])]⟩ 123 [.own 1000000 0,.agg [.str (((v8)[Int.toNat v10]?.getD (S_tmpl_Part.mk [] [] 0 [])).f_Name),.str (((v8)[Int.toNat v10]?.getD (S_tmpl_Part.mk [] [] 0 [])).f_Text),.val (.int .i64 (((v8)[Int.toNat v10]?.getD (S_tmpl_Part.mk [] [] 0 [])).f_Op)),.tree (α:=S_tmpl_Part) (S_tmpl_Part.mk [] [] 0 []) pre_S_tmpl_Part kids_S_tmpl_Part (((v8)[Int.toNat v10]?.getD (S_tmpl_Part.mk [] [] 0 [])).f_Sub)]] [some (134,[.recs (α:=S_api_Var) (S_api_Var.mk [] []) E_api_Var b1000000.f_e])]]) (by kernel_rfl) (AllP.cons ⟨pan_subst_with_part__o0 R_subst_with_parts__o0 hR_subst_with_parts__o0 P_parts hP_parts n ((v8)[Int.toNat v10]?.getD (S_tmpl_Part.mk [] [] 0 [])) b1000000 _ h,by kernel_rfl,by kernel_rfl⟩ AllP.nil) hQ
 | some r1 =>
  rw [hr1] at h
  replace h:=h
  obtain ⟨hc2,h⟩:=chk_of h
  refine Wp.region hΓ [] [(4,.recs (α:=UInt8) 0 e8 (v5 ++ r1.1))] [(3,⟨[(1000000,1000000)],[(1000000,1000000)],[.own 1000000 0,.agg [.str (((v8)[Int.toNat v10]?.getD (S_tmpl_Part.mk [] [] 0 [])).f_Name),.str (((v8)[Int.toNat v10]?.getD (S_tmpl_Part.mk [] [] 0 [])).f_Text),.val (.int .i64 (((v8)[Int.toNat v10]?.getD (S_tmpl_Part.mk [] [] 0 [])).f_Op)),.tree (α:=S_tmpl_Part) (S_tmpl_Part.mk [] [] 0 []) pre_S_tmpl_Part kids_S_tmpl_Part (((v8)[Int.toNat v10]?.getD (S_tmpl_Part.mk [] [] 0 [])).f_Sub)]],[(1000000,134,[.recs (α:=S_api_Var) (S_api_Var.mk [] []) E_api_Var b1000000.f_e])],.str r1.1,[(1000000,134,[.recs (α:=S_api_Var) (S_api_Var.mk [] []) E_api_Var r1.2.f_e])]⟩)] [0,5,8,9,10] [18,1000000] (K':=[(0,.own 1000000 0),(5,.row 18),(8,.recs (α:=S_tmpl_Part) (S_tmpl_Part.mk [] [] 0 []) E_tmpl_Part v8),(9,.val (.int .i64 v9)),(10,.val (.int .i64 v10))]) (L':=[(18,5,[.rowc false (α:=UInt8) 0 e8 (v5 ++ r1.1)]),(1000000,134,[.recs (α:=S_api_Var) (S_api_Var.mk [] []) E_api_Var r1.2.f_e])]) (ob:=[CbOb (CallsB Tryz.prog) 123 [.own 1000000 0,.agg [.str (((v8)[Int.toNat v10]?.getD (S_tmpl_Part.mk [] [] 0 [])).f_Name),.str (((v8)[Int.toNat v10]?.getD (S_tmpl_Part.mk [] [] 0 [])).f_Text),.val (.int .i64 (((v8)[Int.toNat v10]?.getD (S_tmpl_Part.mk [] [] 0 [])).f_Op)),.tree (α:=S_tmpl_Part) (S_tmpl_Part.mk [] [] 0 []) pre_S_tmpl_Part kids_S_tmpl_Part (((v8)[Int.toNat v10]?.getD (S_tmpl_Part.mk [] [] 0 [])).f_Sub)]] [some (134,[.recs (α:=S_api_Var) (S_api_Var.mk [] []) E_api_Var b1000000.f_e])] ⟨[(1000000,1000000)],[(1000000,1000000)],[.own 1000000 0,.agg [.str (((v8)[Int.toNat v10]?.getD (S_tmpl_Part.mk [] [] 0 [])).f_Name),.str (((v8)[Int.toNat v10]?.getD (S_tmpl_Part.mk [] [] 0 [])).f_Text),.val (.int .i64 (((v8)[Int.toNat v10]?.getD (S_tmpl_Part.mk [] [] 0 [])).f_Op)),.tree (α:=S_tmpl_Part) (S_tmpl_Part.mk [] [] 0 []) pre_S_tmpl_Part kids_S_tmpl_Part (((v8)[Int.toNat v10]?.getD (S_tmpl_Part.mk [] [] 0 [])).f_Sub)]],[(1000000,134,[.recs (α:=S_api_Var) (S_api_Var.mk [] []) E_api_Var b1000000.f_e])],.str r1.1,[(1000000,134,[.recs (α:=S_api_Var) (S_api_Var.mk [] []) E_api_Var r1.2.f_e])]⟩,(decide ((List.length v5 + List.length r1.1) * (1 + 1) ≤ limit)) = true,(AppOb 0 e8 v5 (List.map (fun b:UInt8=>D.val (.int .u8 (b.toNat:Int))) r1.1) (List.length r1.1) (.recs (α:=UInt8) 0 e8 (v5 ++ r1.1)) ∧ GoodR (.recs (α:=UInt8) 0 e8 (v5 ++ r1.1)))]) (by kernel_rfl) (AllP.cons (⟨(ok_subst_with_part__o0 R_subst_with_parts__o0 hR_subst_with_parts__o0 n ((v8)[Int.toNat v10]?.getD (S_tmpl_Part.mk [] [] 0 [])) b1000000 _ hr1),by kernel_rfl,by kernel_rfl⟩) (AllP.cons hc2 (AllP.cons (appOb (flat8 _) rfl (good8 _)) AllP.nil))) ?_
  refine To.thenN ?_
  refine Wp.seq ?_
  refine Wp.region hΓ [] [] [] [0,5,8,9,10,21] [18,1000000] (K':=[(0,.own 1000000 0),(5,.row 18),(8,.recs (α:=S_tmpl_Part) (S_tmpl_Part.mk [] [] 0 []) E_tmpl_Part v8),(9,.val (.int .i64 v9)),(10,.val (.int .i64 v10)),(21,.val (.bool (decide ((List.length (v5 ++ r1.1):Int) > 8192))))]) (L':=[(18,5,[.rowc false (α:=UInt8) 0 e8 (v5 ++ r1.1)]),(1000000,134,[.recs (α:=S_api_Var) (S_api_Var.mk [] []) E_api_Var r1.2.f_e])]) (ob:=[]) (by kernel_rfl) AllP.nil ?_
  refine To.thenN ?_
  refine Wp.cond (b:=(decide ((List.length (v5 ++ r1.1):Int) > 8192))) (by kernel_rfl) (fun hb=>?_) (fun hb=>?_)
  ·replace h:=if_t hb h
   cases h
   exact Wp.regionPanE hΓ [] [] [] [1000000] (d:=.agg [.val (.int .i64 9),.str [],.str []]) (L':=[(1000000,134,[.recs (α:=S_api_Var) (S_api_Var.mk [] []) E_api_Var r1.2.f_e])]) (T:=111) (ob:=[]) (by kernel_rfl) AllP.nil (by kernel_rfl) (fun _ _ _ _ hr=>faultV_of 9 [] [] hr) hQ
  ·replace h:=if_f hb h
   refine Wp.skip ?_
   refine To.blockN ?_
   refine To.keep (kk:=[0,5,8,9,10]) (kl:=[18,1000000]) (K':=[(0,.own 1000000 0),(5,.row 18),(8,.recs (α:=S_tmpl_Part) (S_tmpl_Part.mk [] [] 0 []) E_tmpl_Part v8),(9,.val (.int .i64 v9)),(10,.val (.int .i64 v10))]) (L':=[(18,5,[.rowc false (α:=UInt8) 0 e8 (v5 ++ r1.1)]),(1000000,134,[.recs (α:=S_api_Var) (S_api_Var.mk [] []) E_api_Var r1.2.f_e])]) (by kernel_rfl) (by kernel_rfl) ?_
   refine To.pre (St.rename 18 1005 (by decide) (K':=[(0,.own 1000000 0),(5,.row 1005),(8,.recs (α:=S_tmpl_Part) (S_tmpl_Part.mk [] [] 0 []) E_tmpl_Part v8),(9,.val (.int .i64 v9)),(10,.val (.int .i64 v10))]) (L':=[(1005,5,[.rowc false (α:=UInt8) 0 e8 (v5 ++ r1.1)]),(1000000,134,[.recs (α:=S_api_Var) (S_api_Var.mk [] []) E_api_Var r1.2.f_e])]) (by kernel_rfl) (by kernel_rfl) (by kernel_rfl)) ?_
   refine To.keep (kk:=[0,5,8,9,10]) (kl:=[1005,1000000]) (K':=[(0,.own 1000000 0),(5,.row 1005),(8,.recs (α:=S_tmpl_Part) (S_tmpl_Part.mk [] [] 0 []) E_tmpl_Part v8),(9,.val (.int .i64 v9)),(10,.val (.int .i64 v10))]) (L':=[(1005,5,[.rowc false (α:=UInt8) 0 e8 (v5 ++ r1.1)]),(1000000,134,[.recs (α:=S_api_Var) (S_api_Var.mk [] []) E_api_Var r1.2.f_e])]) (by kernel_rfl) (by kernel_rfl) ?_
   cases h
def p_subst_with_parts__o0_l1 (R_subst_with_parts__o0:(List (S_tmpl_Part)) → S_subst_with → Option ((List UInt8) × S_subst_with)) (P_parts:(List (S_tmpl_Part)) → S_subst_with → Option (S_subst_fault × S_subst_with)) (n:Nat) (v8:List (S_tmpl_Part)) (v9:Int):Nat → (List (UInt8)) → Int → S_subst_with → Option (S_subst_fault × S_subst_with)
 | 0,_,_,_=>none
 | k + 1,v5,v10,b1000000=>if (decide (v10 < v9)) = true then (match subst_with_parts__o0_j2 R_subst_with_parts__o0 n v5 v8 v9 v10 b1000000 with
 | some o1=>p_subst_with_parts__o0_l1 R_subst_with_parts__o0 P_parts n v8 v9 k o1.1 (IntKind.wrap .i64 (v10 + 1)) o1.2
 | none=>p_subst_with_parts__o0_j2 R_subst_with_parts__o0 P_parts n v5 v8 v9 v10 b1000000)
 else none
theorem pan_subst_with_parts__o0_l1 (R_subst_with_parts__o0:(List (S_tmpl_Part)) → S_subst_with → Option ((List UInt8) × S_subst_with)) (hR_subst_with_parts__o0:∀ (a1:List (S_tmpl_Part)) (h0:S_subst_with) (r:(List UInt8) × S_subst_with),R_subst_with_parts__o0 a1 h0 = some r → CallsB Tryz.prog 91 [.own 1000000 0,.recs (α:=S_tmpl_Part) (S_tmpl_Part.mk [] [] 0 []) E_tmpl_Part a1] [(1000000,134,[.recs (α:=S_api_Var) (S_api_Var.mk [] []) E_api_Var h0.f_e])] (.str r.1) [(1000000,134,[.recs (α:=S_api_Var) (S_api_Var.mk [] []) E_api_Var r.2.f_e])]) (P_parts:(List (S_tmpl_Part)) → S_subst_with → Option (S_subst_fault × S_subst_with)) (hP_parts:∀ (a1:List (S_tmpl_Part)) (h0:S_subst_with) (r:S_subst_fault × S_subst_with),P_parts a1 h0 = some r → PanB Tryz.prog 91 [.own 1000000 0,.recs (α:=S_tmpl_Part) (S_tmpl_Part.mk [] [] 0 []) E_tmpl_Part a1] [(1000000,134,[.recs (α:=S_api_Var) (S_api_Var.mk [] []) E_api_Var h0.f_e])] (faultV r.1) [(1000000,134,[.recs (α:=S_api_Var) (S_api_Var.mk [] []) E_api_Var r.2.f_e])]) (n:Nat) (v8:List (S_tmpl_Part)) (v9:Int) {F0:Fz} {w0:Pt Tryz.prog} {Q:Exit → Act → World → Prop} (k:Nat):∀ (v5:List (UInt8)) (v10:Int) (b1000000:S_subst_with) (o:S_subst_fault × S_subst_with),p_subst_with_parts__o0_l1 R_subst_with_parts__o0 P_parts n v8 v9 k v5 v10 b1000000 = some o → To 27 F0 w0 [] [(1000000,134,[.recs (α:=S_api_Var) (S_api_Var.mk [] []) E_api_Var o.2.f_e])] (.panic [{ v:=faultV o.1,recovered:=false }]) Q → WL Tryz.prog 27 F0 w0 [(0,.own 1000000 0),(5,.row 1005),(8,.recs (α:=S_tmpl_Part) (S_tmpl_Part.mk [] [] 0 []) E_tmpl_Part v8),(9,.val (.int .i64 v9)),(10,.val (.int .i64 v10))] [(1005,5,[.rowc false (α:=UInt8) 0 e8 v5]),(1000000,134,[.recs (α:=S_api_Var) (S_api_Var.mk [] []) E_api_Var b1000000.f_e])] (cI (cI (cB (cA (cB (cB (cF Tryz.f91))))))) Q:=by
 induction k with
 | zero=>intro v5 v10 b1000000 o h; cases h
 | succ k ih =>
  intro v5 v10 b1000000 o h hQ
  rw [p_subst_with_parts__o0_l1] at h
  refine WL.round ?_
  refine Wp.seq ?_
  refine Wp.region hΓ [] [] [] [0,5,8,9,10,11] [1005,1000000] (K':=[(0,.own 1000000 0),(5,.row 1005),(8,.recs (α:=S_tmpl_Part) (S_tmpl_Part.mk [] [] 0 []) E_tmpl_Part v8),(9,.val (.int .i64 v9)),(10,.val (.int .i64 v10)),(11,.val (.bool (decide (v10 < v9))))]) (L':=[(1005,5,[.rowc false (α:=UInt8) 0 e8 v5]),(1000000,134,[.recs (α:=S_api_Var) (S_api_Var.mk [] []) E_api_Var b1000000.f_e])]) (ob:=[]) (by kernel_rfl) AllP.nil ?_
  refine To.thenN ?_
  refine Wp.seq ?_
  refine Wp.cond (b:=(decide (v10 < v9))) (by kernel_rfl) (fun hb=>?_) (fun hb=>?_)
  ·replace h:=if_t hb h
   refine Wp.skip ?_
   refine To.thenN ?_
   refine Wp.seq ?_
   cases ho1:subst_with_parts__o0_j2 R_subst_with_parts__o0 n v5 v8 v9 v10 b1000000 with
   | none =>
    rw [ho1] at h
    refine Wp.keep (kk:=[0,5,8,9,10]) (kl:=[1005,1000000]) (K':=[(0,.own 1000000 0),(5,.row 1005),(8,.recs (α:=S_tmpl_Part) (S_tmpl_Part.mk [] [] 0 []) E_tmpl_Part v8),(9,.val (.int .i64 v9)),(10,.val (.int .i64 v10))]) (L':=[(1005,5,[.rowc false (α:=UInt8) 0 e8 v5]),(1000000,134,[.recs (α:=S_api_Var) (S_api_Var.mk [] []) E_api_Var b1000000.f_e])]) (by kernel_rfl) (by kernel_rfl) ?_
    exact pan_subst_with_parts__o0_j2 R_subst_with_parts__o0 hR_subst_with_parts__o0 P_parts hP_parts n v5 v8 v9 v10 b1000000 _ h hQ
   | some o1 =>
    rw [ho1] at h
    replace h:=h
    refine Wp.keep (kk:=[0,5,8,9,10]) (kl:=[1005,1000000]) (K':=[(0,.own 1000000 0),(5,.row 1005),(8,.recs (α:=S_tmpl_Part) (S_tmpl_Part.mk [] [] 0 []) E_tmpl_Part v8),(9,.val (.int .i64 v9)),(10,.val (.int .i64 v10))]) (L':=[(1005,5,[.rowc false (α:=UInt8) 0 e8 v5]),(1000000,134,[.recs (α:=S_api_Var) (S_api_Var.mk [] []) E_api_Var b1000000.f_e])]) (by kernel_rfl) (by kernel_rfl) ?_
    refine ok_subst_with_parts__o0_j2 R_subst_with_parts__o0 hR_subst_with_parts__o0 n v5 v8 v9 v10 b1000000 o1 ho1 ?_
    refine To.thenN ?_
    refine Wp.region hΓ [] [] [] [0,5,8,9,10] [1005,1000000] (K':=[(0,.own 1000000 0),(5,.row 1005),(8,.recs (α:=S_tmpl_Part) (S_tmpl_Part.mk [] [] 0 []) E_tmpl_Part v8),(9,.val (.int .i64 v9)),(10,.val (.int .i64 (IntKind.wrap .i64 (v10 + 1))))]) (L':=[(1005,5,[.rowc false (α:=UInt8) 0 e8 o1.1]),(1000000,134,[.recs (α:=S_api_Var) (S_api_Var.mk [] []) E_api_Var o1.2.f_e])]) (ob:=[]) (by kernel_rfl) AllP.nil ?_
    refine To.keep (kk:=[0,5,8,9,10]) (kl:=[1005,1000000]) (K':=[(0,.own 1000000 0),(5,.row 1005),(8,.recs (α:=S_tmpl_Part) (S_tmpl_Part.mk [] [] 0 []) E_tmpl_Part v8),(9,.val (.int .i64 v9)),(10,.val (.int .i64 (IntKind.wrap .i64 (v10 + 1))))]) (L':=[(1005,5,[.rowc false (α:=UInt8) 0 e8 o1.1]),(1000000,134,[.recs (α:=S_api_Var) (S_api_Var.mk [] []) E_api_Var o1.2.f_e])]) (by kernel_rfl) (by kernel_rfl) ?_
    refine To.again ?_
    exact ih o1.1 (IntKind.wrap .i64 (v10 + 1)) o1.2 _ h hQ
  ·replace h:=if_f hb h
   refine Wp.exit ?_
   refine To.thenX ?_
   refine To.thenX ?_
   refine To.keep (kk:=[5]) (kl:=[1005,1000000]) (K':=[(5,.row 1005)]) (L':=[(1005,5,[.rowc false (α:=UInt8) 0 e8 v5]),(1000000,134,[.recs (α:=S_api_Var) (S_api_Var.mk [] []) E_api_Var b1000000.f_e])]) (by kernel_rfl) (by kernel_rfl) ?_
   cases h
def p_subst_with_parts__o0_b (R_subst_with_parts__o0:(List (S_tmpl_Part)) → S_subst_with → Option ((List UInt8) × S_subst_with)) (P_parts:(List (S_tmpl_Part)) → S_subst_with → Option (S_subst_fault × S_subst_with)) (n:Nat) (a1:List (S_tmpl_Part)) (h0:S_subst_with):Option (S_subst_fault × S_subst_with) :=
 p_subst_with_parts__o0_l1 R_subst_with_parts__o0 P_parts n a1 (List.length a1:Int) n ([]:List (UInt8)) 0 h0
theorem pan_subst_with_parts__o0_b (R_subst_with_parts__o0:(List (S_tmpl_Part)) → S_subst_with → Option ((List UInt8) × S_subst_with)) (hR_subst_with_parts__o0:∀ (a1:List (S_tmpl_Part)) (h0:S_subst_with) (r:(List UInt8) × S_subst_with),R_subst_with_parts__o0 a1 h0 = some r → CallsB Tryz.prog 91 [.own 1000000 0,.recs (α:=S_tmpl_Part) (S_tmpl_Part.mk [] [] 0 []) E_tmpl_Part a1] [(1000000,134,[.recs (α:=S_api_Var) (S_api_Var.mk [] []) E_api_Var h0.f_e])] (.str r.1) [(1000000,134,[.recs (α:=S_api_Var) (S_api_Var.mk [] []) E_api_Var r.2.f_e])]) (P_parts:(List (S_tmpl_Part)) → S_subst_with → Option (S_subst_fault × S_subst_with)) (hP_parts:∀ (a1:List (S_tmpl_Part)) (h0:S_subst_with) (r:S_subst_fault × S_subst_with),P_parts a1 h0 = some r → PanB Tryz.prog 91 [.own 1000000 0,.recs (α:=S_tmpl_Part) (S_tmpl_Part.mk [] [] 0 []) E_tmpl_Part a1] [(1000000,134,[.recs (α:=S_api_Var) (S_api_Var.mk [] []) E_api_Var h0.f_e])] (faultV r.1) [(1000000,134,[.recs (α:=S_api_Var) (S_api_Var.mk [] []) E_api_Var r.2.f_e])]) (n:Nat) (a1:List (S_tmpl_Part)) (h0:S_subst_with) (r:S_subst_fault × S_subst_with) (h:p_subst_with_parts__o0_b R_subst_with_parts__o0 P_parts n a1 h0 = some r):PanB Tryz.prog 91 [.own 1000000 0,.recs (α:=S_tmpl_Part) (S_tmpl_Part.mk [] [] 0 []) E_tmpl_Part a1] [(1000000,134,[.recs (α:=S_api_Var) (S_api_Var.mk [] []) E_api_Var h0.f_e])] (faultV r.1) [(1000000,134,[.recs (α:=S_api_Var) (S_api_Var.mk [] []) E_api_Var r.2.f_e])]:=by
 unfold p_subst_with_parts__o0_b at h
 refine panB_of (fn:=Tryz.f91) (by kernel_rfl) rfl (by kernel_rfl) (Nat.le_of_ble_eq_true (by kernel_rfl)) fun F0 w0=>?_
 refine Wp.keep (kk:=[0,1]) (kl:=[1000000]) (K':=[(0,.own 1000000 0),(1,.recs (α:=S_tmpl_Part) (S_tmpl_Part.mk [] [] 0 []) E_tmpl_Part a1)]) (L':=[(1000000,134,[.recs (α:=S_api_Var) (S_api_Var.mk [] []) E_api_Var h0.f_e])]) (by kernel_rfl) (by kernel_rfl) ?_
 refine Wp.seq ?_
 refine Wp.region hΓ [] [] [] [0,1] [1000000] (K':=[(0,.own 1000000 0),(1,.recs (α:=S_tmpl_Part) (S_tmpl_Part.mk [] [] 0 []) E_tmpl_Part a1)]) (L':=[(1000000,134,[.recs (α:=S_api_Var) (S_api_Var.mk [] []) E_api_Var h0.f_e])]) (ob:=[]) (by kernel_rfl) AllP.nil ?_
 refine To.thenN ?_
 refine Wp.seq ?_
 refine Wp.region hΓ [] [] [] [0,1,5] [1000000] (K':=[(0,.own 1000000 0),(1,.recs (α:=S_tmpl_Part) (S_tmpl_Part.mk [] [] 0 []) E_tmpl_Part a1),(5,.val (.slice none 0 0))]) (L':=[(1000000,134,[.recs (α:=S_api_Var) (S_api_Var.mk [] []) E_api_Var h0.f_e])]) (ob:=[]) (by kernel_rfl) AllP.nil ?_
 refine To.thenN ?_
 refine Wp.seq ?_
 refine Wp.seq ?_
 refine Wp.region hΓ [] [] [] [0,5,8,9,10] [1000000] (K':=[(0,.own 1000000 0),(5,.val (.slice none 0 0)),(8,.recs (α:=S_tmpl_Part) (S_tmpl_Part.mk [] [] 0 []) E_tmpl_Part a1),(9,.val (.int .i64 (List.length a1:Int))),(10,.val (.int .i64 0))]) (L':=[(1000000,134,[.recs (α:=S_api_Var) (S_api_Var.mk [] []) E_api_Var h0.f_e])]) (ob:=[]) (by kernel_rfl) AllP.nil ?_
 refine To.thenN ?_
 refine Wp.block ?_
 refine Wp.keep (kk:=[0,5,8,9,10]) (kl:=[1000000]) (K':=[(0,.own 1000000 0),(5,.val (.slice none 0 0)),(8,.recs (α:=S_tmpl_Part) (S_tmpl_Part.mk [] [] 0 []) E_tmpl_Part a1),(9,.val (.int .i64 (List.length a1:Int))),(10,.val (.int .i64 0))]) (L':=[(1000000,134,[.recs (α:=S_api_Var) (S_api_Var.mk [] []) E_api_Var h0.f_e])]) (by kernel_rfl) (by kernel_rfl) ?_
 refine Wp.pre (St.vacant (t:=5) (k:=1005) (e:=5) (K':=[(0,.own 1000000 0),(5,.row 1005),(8,.recs (α:=S_tmpl_Part) (S_tmpl_Part.mk [] [] 0 []) E_tmpl_Part a1),(9,.val (.int .i64 (List.length a1:Int))),(10,.val (.int .i64 0))]) (good8 _) (by decide) (by kernel_rfl) (by kernel_rfl)) ?_
 refine Wp.keep (kk:=[0,5,8,9,10]) (kl:=[1005,1000000]) (K':=[(0,.own 1000000 0),(5,.row 1005),(8,.recs (α:=S_tmpl_Part) (S_tmpl_Part.mk [] [] 0 []) E_tmpl_Part a1),(9,.val (.int .i64 (List.length a1:Int))),(10,.val (.int .i64 0))]) (L':=[(1005,5,[.rowc false (α:=UInt8) 0 e8 []]),(1000000,134,[.recs (α:=S_api_Var) (S_api_Var.mk [] []) E_api_Var h0.f_e])]) (by kernel_rfl) (by kernel_rfl) ?_
 refine Wp.loopL ?_
 refine pan_subst_with_parts__o0_l1 R_subst_with_parts__o0 hR_subst_with_parts__o0 P_parts hP_parts n a1 (List.length a1:Int) n ([]:List (UInt8)) 0 h0 _ h ?_
 exact To.donePan (fn:=Tryz.f91) [1000000] (by kernel_rfl)
def p_subst_with_parts__o0:Nat → (List (S_tmpl_Part)) → S_subst_with → Option (S_subst_fault × S_subst_with)
 | 0=>fun _ _=>none
 | n + 1=>p_subst_with_parts__o0_b (subst_with_parts__o0 n) (p_subst_with_parts__o0 n) n
theorem pan_subst_with_parts__o0 (n:Nat):∀ (a1:List (S_tmpl_Part)) (h0:S_subst_with) (r:S_subst_fault × S_subst_with),p_subst_with_parts__o0 n a1 h0 = some r → PanB Tryz.prog 91 [.own 1000000 0,.recs (α:=S_tmpl_Part) (S_tmpl_Part.mk [] [] 0 []) E_tmpl_Part a1] [(1000000,134,[.recs (α:=S_api_Var) (S_api_Var.mk [] []) E_api_Var h0.f_e])] (faultV r.1) [(1000000,134,[.recs (α:=S_api_Var) (S_api_Var.mk [] []) E_api_Var r.2.f_e])]:=by
 induction n with
 | zero=>intro a1 h0 r h; cases h
 | succ n ih=>exact fun a1 h0 r h=>pan_subst_with_parts__o0_b (subst_with_parts__o0 n) (ok_subst_with_parts__o0 n) (p_subst_with_parts__o0 n) ih n a1 h0 r h
theorem faultC_rep (x:S_subst_fault) (F:Fz) (w:World) (B:Env):Rep F w B (.agg [.val (.int .i64 x.f_e),.str x.f_key,.str x.f_why]) (faultC x) :=
 .agg _ [.int .i64 x.f_e,.string ⟨x.f_key.toArray⟩,.string ⟨x.f_why.toArray⟩] (.cons _ _ _ _ (.val _ rfl) (.cons _ _ _ _ (.str _) (.cons _ _ _ _ (.str _) .nil)))
theorem own2 {F:Fz} {w:World} {B:Env} {args:List Value} (hr:RepL F w B [.own 1000000 0,.own 1000001 0] args):∃ p q,args = [p,q] ∧ Rep F w B (.own 1000000 0) p ∧ Rep F w B (.own 1000001 0) q:=by
 cases hr with
 | cons _ p _ _ h1 h=>cases h with
  | cons _ q _ _ h2 h=>cases h; exact ⟨p,q,rfl,h1,h2⟩
theorem nt52:Tryz.f90.ntmps = 17:=by kernel_rfl
theorem res52 (tmps:Array Value) (w:World):(results Tryz.f90 tmps).run Tryz.prog w = .ok (.tuple #[]) w:=results_none (by kernel_rfl) _ _ _
theorem def52_pan (x:S_subst_fault) (s0:List UInt8) (e0:Int) (k0 y0:List UInt8):DefB Tryz.prog 90 [.own 1000000 0,.own 1000001 0] [(1000000,9,[.str s0]),(1000001,111,[.val (.int .i64 e0),.str k0,.str y0])]
  (.panicking [{ v:=faultV x,recovered:=false }]) (.panicking [{ v:=faultV x,recovered:=true }]) [(1000000,9,[.str []]),(1000001,111,[.val (.int .i64 x.f_e),.str x.f_key,.str x.f_why])]:=by
 intro F w1 B args hb hr
 obtain ⟨p,q,rfl,hp,hq⟩:=own2 hr
 refine callsD_of_wpS (fn:=Tryz.f90) (by kernel_rfl) rfl fun c₀ cs hu=>?_
 rw [nt52]
 refine wpS_seq ?_
 refine wpS_recover (t5:=5) (t2:=2) (fun _ _=>rfl) rfl rfl rfl rfl rfl (by simp) ?_
 have hrec:recoverD (c₀ :: cs) = some (faultV x,{ c₀ with mode:=.panicking [{ v:=faultV x,recovered:=true }] } :: cs):=by simp [recoverD,hu]
 rw [hrec]
 refine wpS_of_wp (XC.wp (?_:XC w1.cl.rnd _ _ _ _ _))
 refine (?_:Wp Tryz.prog 17 F w1.cl [(0,.own 1000000 0),(1,.own 1000001 0),(2,.val (faultV x))] [(1000000,9,[.str s0]),(1000001,111,[.val (.int .i64 e0),.str k0,.str y0])] _ _) _ _ ⟨B,F,hb.cl,rfl,by rw [put_size,put_size]; simp,fun y hy=>?_⟩
 rotate_left
 ·simp only [List.mem_cons,List.not_mem_nil,or_false] at hy
  rcases hy with rfl | rfl | rfl
  ·exact ⟨p,by rw [put_other (by decide),put_other (by decide)]; simp,hp⟩
  ·exact ⟨q,by rw [put_other (by decide),put_other (by decide)]; simp,hq⟩
  ·exact ⟨faultV x,put_same (by rw [put_size]; simp),.val _ rfl⟩
 refine Wp.seq ?_
 refine Wp.regionIfNil (t0:=2) (t3:=6) (t4:=7) (v:=faultV x) (b:=true) rfl rfl rfl rfl rfl rfl (by decide) rfl (fun w=>⟨by simp [faultV,go_sem],by simp [faultV,go_sem]⟩) ?_
 refine To.thenN ?_
 refine Wp.cond (b:=true) (by kernel_rfl) (fun _=>?_) (fun h=>by cases h)
 refine Wp.seq ?_
 refine Wp.regionTA hΓ (s:=2) (t9:=9) (t10:=10) (t8:=8) (v:=faultC x) (d:=.agg [.val (.int .i64 x.f_e),.str x.f_key,.str x.f_why]) [] [] [] [0,1,3,4] [3,1000000,1000001] rfl rfl rfl rfl rfl rfl rfl rfl rfl (by kernel_rfl) rfl (fun F w B=>faultC_rep x F w B) (by decide) (by kernel_rfl)
  (K':=[(0,.own 1000000 0),(1,.own 1000001 0),(3,.own 3 0),(4,.val (.bool true))]) (L':=[(3,111,[.val (.int .i64 x.f_e),.str x.f_key,.str x.f_why]),(1000000,9,[.str s0]),(1000001,111,[.val (.int .i64 e0),.str k0,.str y0])]) (ob:=[]) (by kernel_rfl) AllP.nil ?_
 refine To.thenN ?_
 refine Wp.seq ?_
 refine Wp.seq ?_
 refine Wp.region hΓ [] [] [] [0,1,3,14] [3,1000000,1000001] (K':=[(0,.own 1000000 0),(1,.own 1000001 0),(3,.own 3 0),(14,.val (.bool false))]) (L':=[(3,111,[.val (.int .i64 x.f_e),.str x.f_key,.str x.f_why]),(1000000,9,[.str s0]),(1000001,111,[.val (.int .i64 e0),.str k0,.str y0])]) (ob:=[]) (by kernel_rfl) AllP.nil ?_
 refine To.thenN ?_
 refine Wp.cond (b:=false) (by kernel_rfl) (fun h=>by cases h) (fun _=>?_)
 refine Wp.skip ?_
 refine To.thenN ?_
 refine Wp.regionD hm hΓ [] [] [1000000,1000001] (K':=[]) (L':=[(1000000,9,[.str []]),(1000001,111,[.val (.int .i64 x.f_e),.str x.f_key,.str x.f_why])]) (ob:=[]) (by kernel_rfl) AllP.nil ?_
 rintro a w ⟨B',F',hb',hd',_,_⟩
 exact ⟨hd',_,rfl,_,res52 _ _,F',B',rfl,rfl,hb'.ofcl⟩
theorem def52_ret (s0:List UInt8) (e0:Int) (k0 y0:List UInt8):DefB Tryz.prog 90 [.own 1000000 0,.own 1000001 0] [(1000000,9,[.str s0]),(1000001,111,[.val (.int .i64 e0),.str k0,.str y0])]
  .returning .returning [(1000000,9,[.str s0]),(1000001,111,[.val (.int .i64 e0),.str k0,.str y0])]:=by
 intro F w1 B args hb hr
 obtain ⟨p,q,rfl,hp,hq⟩:=own2 hr
 refine callsD_of_wpS (fn:=Tryz.f90) (by kernel_rfl) rfl fun c₀ cs hu=>?_
 rw [nt52]
 refine wpS_seq ?_
 refine wpS_recover (t5:=5) (t2:=2) (fun _ _=>rfl) rfl rfl rfl rfl rfl (by simp) ?_
 have hrec:recoverD (c₀ :: cs) = none:=by simp [recoverD,hu]
 rw [hrec]
 refine wpS_of_wp (XC.wp (?_:XC w1.cl.rnd _ _ _ _ _))
 refine (?_:Wp Tryz.prog 17 F w1.cl [(0,.own 1000000 0),(1,.own 1000001 0),(2,.val .nilIface)] [(1000000,9,[.str s0]),(1000001,111,[.val (.int .i64 e0),.str k0,.str y0])] _ _) _ _ ⟨B,F,hb.cl,rfl,by rw [put_size,put_size]; simp,fun y hy=>?_⟩
 rotate_left
 ·simp only [List.mem_cons,List.not_mem_nil,or_false] at hy
  rcases hy with rfl | rfl | rfl
  ·exact ⟨p,by rw [put_other (by decide),put_other (by decide)]; simp,hp⟩
  ·exact ⟨q,by rw [put_other (by decide),put_other (by decide)]; simp,hq⟩
  ·exact ⟨.nilIface,put_same (by rw [put_size]; simp),.val _ rfl⟩
 refine Wp.seq ?_
 refine Wp.regionIfNil (t0:=2) (t3:=6) (t4:=7) (v:=.nilIface) (b:=false) rfl rfl rfl rfl rfl rfl (by decide) rfl (fun w=>⟨by simp [go_sem],by simp [go_sem]⟩) ?_
 refine To.thenN ?_
 refine Wp.cond (b:=false) (by kernel_rfl) (fun h=>by cases h) (fun _=>?_)
 refine Wp.skip ?_
 rintro a w ⟨B',F',hb',hd',_,_⟩
 refine ⟨hd',.returning,?_,_,res52 _ _,F',B',rfl,rfl,hb'.ofcl⟩
 cases c₀
 simp_all
def subst_expand (n:Nat) (a0:List (S_tmpl_Part)) (a1:List (S_api_Var)):Option ((List UInt8) × S_subst_fault) :=
 match subst_with_parts__o0 n a0 (S_subst_with.mk a1) with
 | some r1=>some (r1.1,(S_subst_fault.mk 0 [] []))
 | none=>(p_subst_with_parts__o0 n a0 (S_subst_with.mk a1)).bind fun q=>some ([],q.1)
theorem ok_subst_expand (n:Nat) (a0:List (S_tmpl_Part)) (a1:List (S_api_Var)) (r:(List UInt8) × S_subst_fault) (h:subst_expand n a0 a1 = some r):CallsX Tryz.prog 69 [.recs (α:=S_tmpl_Part) (S_tmpl_Part.mk [] [] 0 []) E_tmpl_Part a0,.recs (α:=S_api_Var) (S_api_Var.mk [] []) E_api_Var a1] (.tup [.str r.1,.agg [.val (.int .i64 r.2.f_e),.str r.2.f_key,.str r.2.f_why]]):=by
 unfold subst_expand at h
 refine callsX_ofD (fn:=Tryz.f69) (by kernel_rfl) rfl (by kernel_rfl) (Nat.le_of_ble_eq_true (by kernel_rfl)) fun F0 w0 hsh=>?_
 refine Wp.seq ?_
 refine Wp.region hΓ [] [] [] [0,1,4,5] [4,5] (K':=[(0,.recs (α:=S_tmpl_Part) (S_tmpl_Part.mk [] [] 0 []) E_tmpl_Part a0),(1,.recs (α:=S_api_Var) (S_api_Var.mk [] []) E_api_Var a1),(4,.own 4 0),(5,.own 5 0)]) (L':=[(4,9,[.str []]),(5,111,[.val (.int .i64 0),.str [],.str []])]) (ob:=[]) (by kernel_rfl) AllP.nil ?_
 refine To.thenN ?_
 refine Wp.seq ?_
 refine Wp.defer2 hΓ (pv:=faultV r.2) (k4:=4) (k5:=5) (fd:=90) (ds4:=[.str r.1]) (ds5:=[.val (.int .i64 r.2.f_e),.str r.2.f_key,.str r.2.f_why]) [(0,.recs (α:=S_tmpl_Part) (S_tmpl_Part.mk [] [] 0 []) E_tmpl_Part a0),(1,.recs (α:=S_api_Var) (S_api_Var.mk [] []) E_api_Var a1),(4,.own 1000000 0),(5,.own 1000001 0)]
  rfl rfl rfl rfl rfl rfl ⟨Tryz.f90,by kernel_rfl,by kernel_rfl,by kernel_rfl⟩ (by decide) rfl rfl (by decide) ⟨rfl,rfl,rfl,rfl⟩ (fun x hx=>?_) (by kernel_rfl) fun F1 w1 _=>?_
 ·simp only [List.mem_cons,List.not_mem_nil,or_false] at hx
  rcases hx with rfl | rfl | rfl | rfl
  ·exact .inr (.inr ⟨by simp,rfl,Nat.ne_of_lt (Nat.le_of_ble_eq_true rfl)⟩)
  ·exact .inr (.inr ⟨by simp,rfl,Nat.ne_of_lt (Nat.le_of_ble_eq_true rfl)⟩)
  ·exact .inl rfl
  ·exact .inr (.inl rfl)
 refine Wp.seq ?_
 refine Wp.region hΓ [] [] [] [0,4,5,6] [6,1000000,1000001] (K':=[(0,.recs (α:=S_tmpl_Part) (S_tmpl_Part.mk [] [] 0 []) E_tmpl_Part a0),(4,.own 1000000 0),(5,.own 1000001 0),(6,.own 6 0)]) (L':=[(6,134,[.recs (α:=S_api_Var) (S_api_Var.mk [] []) E_api_Var a1]),(1000000,9,[.str []]),(1000001,111,[.val (.int .i64 0),.str [],.str []])]) (ob:=[]) (by kernel_rfl) AllP.nil ?_
 refine To.thenN ?_
 refine Wp.seq ?_
 cases hp:subst_with_parts__o0 n a0 (S_subst_with.mk a1) with
 | some r1 =>
  rw [hp] at h
  cases h
  refine Wp.region hΓ [] [] [(1,⟨[(1000000,6)],[(1000000,6)],[.own 1000000 0,.recs (α:=S_tmpl_Part) (S_tmpl_Part.mk [] [] 0 []) E_tmpl_Part a0],[(1000000,134,[.recs (α:=S_api_Var) (S_api_Var.mk [] []) E_api_Var a1])],.str r1.1,[(1000000,134,[.recs (α:=S_api_Var) (S_api_Var.mk [] []) E_api_Var r1.2.f_e])]⟩)] [4,5] [1000000,1000001] (K':=[(4,.own 1000000 0),(5,.own 1000001 0)]) (L':=[(1000000,9,[.str r1.1]),(1000001,111,[.val (.int .i64 0),.str [],.str []])]) (ob:=[CbOb (CallsB Tryz.prog) 91 [.own 6 0,.recs (α:=S_tmpl_Part) (S_tmpl_Part.mk [] [] 0 []) E_tmpl_Part a0] [some (134,[.recs (α:=S_api_Var) (S_api_Var.mk [] []) E_api_Var a1])] ⟨[(1000000,6)],[(1000000,6)],[.own 1000000 0,.recs (α:=S_tmpl_Part) (S_tmpl_Part.mk [] [] 0 []) E_tmpl_Part a0],[(1000000,134,[.recs (α:=S_api_Var) (S_api_Var.mk [] []) E_api_Var a1])],.str r1.1,[(1000000,134,[.recs (α:=S_api_Var) (S_api_Var.mk [] []) E_api_Var r1.2.f_e])]⟩]) (by kernel_rfl) (AllP.cons (⟨(ok_subst_with_parts__o0 n a0 (S_subst_with.mk a1) _ hp),by kernel_rfl,by kernel_rfl⟩) AllP.nil) ?_
  refine To.thenN ?_
  refine Wp.ret ?_
  exact fun a w hs=>⟨_,_,hs,rfl,rfl,.inl ⟨rfl,def52_ret _ _ _ _⟩⟩
 | none =>
  rw [hp] at h
  obtain ⟨q,hq,h⟩:=bind_of h
  cases h
  refine Wp.regionPan (pv:=faultV q.1) hΓ 1 [] [] [] ⟨[(1000000,6)],[(1000000,6)],[.own 1000000 0,.recs (α:=S_tmpl_Part) (S_tmpl_Part.mk [] [] 0 []) E_tmpl_Part a0],[(1000000,134,[.recs (α:=S_api_Var) (S_api_Var.mk [] []) E_api_Var a1])],.hole,[(1000000,134,[.recs (α:=S_api_Var) (S_api_Var.mk [] []) E_api_Var q.2.f_e])]⟩ [4,5] [1000000,1000001] (K':=[(4,.own 1000000 0),(5,.own 1000001 0)]) (L':=[(1000000,9,[.str []]),(1000001,111,[.val (.int .i64 0),.str [],.str []])]) (ob:=[PanOb Tryz.prog (faultV q.1) ⟨[(1000000,6)],[(1000000,6)],[.own 1000000 0,.recs (α:=S_tmpl_Part) (S_tmpl_Part.mk [] [] 0 []) E_tmpl_Part a0],[(1000000,134,[.recs (α:=S_api_Var) (S_api_Var.mk [] []) E_api_Var a1])],.hole,[(1000000,134,[.recs (α:=S_api_Var) (S_api_Var.mk [] []) E_api_Var q.2.f_e])]⟩ 91 [.own 6 0,.recs (α:=S_tmpl_Part) (S_tmpl_Part.mk [] [] 0 []) E_tmpl_Part a0] [some (134,[.recs (α:=S_api_Var) (S_api_Var.mk [] []) E_api_Var a1])]]) (by kernel_rfl) (AllP.cons ⟨pan_subst_with_parts__o0 n a0 (S_subst_with.mk a1) _ hq,by kernel_rfl,by kernel_rfl⟩ AllP.nil) ?_
  exact fun a w hs=>⟨_,_,hs,rfl,rfl,.inr ⟨rfl,def52_pan _ _ _ _ _⟩⟩
end Go.Proofs.YtibgdilkodjojaaGreatDoor.M
