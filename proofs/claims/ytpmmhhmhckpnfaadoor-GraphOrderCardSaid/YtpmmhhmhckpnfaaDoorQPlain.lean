import Derived.Test.YtpmmhhmhckpnfaaDoorQRxAnyB
import Derived.Test.YtpmmhhmhckpnfaaDoorQM24a
set_option linter.all false
namespace Go.Proofs.YtpmmhhmhckpnfaaDoor.PL
open Go Go.Proofs.YtpmmhhmhckpnfaaDoor.RX
theorem oS(x:Int)(h1:-9223372036854775808<=x)(h2:x<=9223372036854775807):IntKind.wrap .i64 x=x:=by
 simp only[IntKind.wrap,IntKind.bits,IntKind.signed,Bool.true_and,decide_eq_true_eq,show((2:Int) ^ (64-1))=9223372036854775808 from rfl,show((2:Int) ^ 64)=18446744073709551616 from rfl]
 split<;>omega
theorem oY(i:Nat)(h:i<1000000000):IntKind.wrap .i64 ((i:Int)+1)=((i+1:Nat):Int):=by rw[oS _ (by omega) (by omega)];omega
theorem iP{α:Type}{l:List α}{d:α}{i:Nat}(h:i<l.length):(l[Int.toNat (i:Int)]?.getD d)=l[i]:=by simp[h]
theorem fe{α:Type}{l:List α}{i:Nat}(h:i<l.length):decide (0<=(i:Int)/\(i:Int)<(List.length l:Int))=true:=by simp;omega
theorem ic{i n:Nat}(h:i<n):decide ((i:Int)<(n:Int))=true:=by simp;omega
end Go.Proofs.YtpmmhhmhckpnfaaDoor.PL
namespace Go.Proofs.YtpmmhhmhckpnfaaDoor.M
open Go.RowKit Go.Proofs.YtpmmhhmhckpnfaaDoor.RX
set_option maxRecDepth 100000
abbrev Sv:=aF
abbrev svD(l:List Sv):D:=.recs (α:=Sv) aP au l
def po(x:Int×Sv):List D:=[.val (.int .i64 x.1),.agg (au x.2)]
def oH(l:List Sv):Nat->List (Int×Sv)
 |0=>[]
 |i+1=>((i:Int),l[i]?.getD aP)::oH l i
def oq(_:Nat)(l:List Sv):Option (List (Int×Sv)):=if decide (l.length<=limit)=true then some (oH l l.length) else none
theorem FM(l:List Sv):bq Tryd.prog 24 [svD l] (.fn 33 [.el [svD l]]):=by
 refine rX (fn:=Tryd.f24) (by kernel_rfl) rfl (by kernel_rfl) (Nat.le_of_ble_eq_true (by kernel_rfl)) fun F0 w0 _=>?_
 refine Wp.seq ?_
 refine Wp.region hΓ [] [] [] [1] [1] (K':=[(1,.own 1 0)]) (L':=[(1,22,[svD l])]) (ob:=[]) (by kernel_rfl) ax.nil ?_
 refine To.aj ?_
 refine Wp.seq ?_
 refine Wp.region hΓ [(0,[1])] [] [] [2] [] (K':=[(2,.fn 33 [.el [svD l]])]) (L':=[]) (ob:=[]) (by kernel_rfl) ax.nil ?_
 refine To.aj ?_
 refine Wp.ret ?_
 exact To.done hΓ (by kernel_rfl)
abbrev y33(l:Nat):Value:=.func (.yield l) #[] #[]
abbrev K33(l:Nat)(a:List Sv)(e:Int):List (Nat×D):=[(0,.val (y33 l)),(1,.el [svD a]),(3,.val (.int .i64 e))]
theorem yQ{i:Nat}(h:i<=140737488355328):IntKind.wrap .i64 ((i:Int)-1)=(i:Int)-1:=PL.oS _ (by omega) (by omega)
theorem Ha(a:List Sv)(hlen:a.length<=limit)(l:Nat)(J:List (Int×Sv)->Fz->World->Prop)(Jx:Fz->World->Prop)(hs:mJ J)(hsx:mJ (fun(_:Unit)=>Jx))
  (hy:∀x r F w args,J (x::r) F w->(∀g k,F g k->g<w.heap.size)->Shp Tryd.prog w->aA F w NB (po x) args->YieldAt (Fr none) 0 Tryd.prog l args.toArray w fun e w'=>∃F',Adv Tryd.prog F w F' w'/\((e=.returned (.bool true)/\J r F' w')\/(e=.returned (.bool false)/\Jx F' w'))) :
  ∀(i:Nat),i<=a.length->∀(e:Int),e=(i:Int)-1->∀(F0:Fz)(wt:World)(hsh:Shp Tryd.prog wt),(∀g k,F0 g k->g<wt.heap.size)->J (oH a i) F0 wt ->
   WL Tryd.prog 19 F0 (.top wt hsh) (K33 l a e) [] (cI (cI (cB (cF Tryd.f33)))) (Exit.inBlock 0 (bodyPostM (Fr none) 0 Tryd.prog Tryd.f33 (sZ (J []) Jx))):=by
 have hlim:limit=140737488355328:=rfl
 intro i
 induction i with
 |zero =>
  intro _ e he F0 wt hsh hF hJ
  refine WL.round ?_
  refine Wp.seq ?_
  refine Wp.seq ?_
  refine Wp.region hΓ [] [] [] [0,1,3,8] [] (K':=K33 l a e++[(8,.val (.bool (decide (e>=0))))]) (L':=[]) (ob:=[]) (by kernel_rfl) ax.nil ?_
  refine To.aj ?_
  refine Wp.cond (b:=decide (e>=0)) (by kernel_rfl) (fun hb=>?_) (fun hb=>?_)
  ·have:=of_decide_eq_true hb;omega
  ·refine Wp.exit ?_
   refine To.aZ ?_
   refine To.aZ ?_
   refine To.keep (kk:=[]) (kl:=[]) (K':=[]) (L':=[]) (by kernel_rfl) (by kernel_rfl) ?_
   refine To.cH ?_
   exact To.FN (r:=.tup []) hΓ hs hsx (.inl hJ) (by kernel_rfl)
 |succ i ih =>
  intro hi e he F0 wt hsh hF hJ
  have he':e=(i:Int):=by omega
  refine WL.round ?_
  refine Wp.seq ?_
  refine Wp.seq ?_
  refine Wp.region hΓ [] [] [] [0,1,3,8] [] (K':=K33 l a e++[(8,.val (.bool (decide (e>=0))))]) (L':=[]) (ob:=[]) (by kernel_rfl) ax.nil ?_
  refine To.aj ?_
  refine Wp.cond (b:=decide (e>=0)) (by kernel_rfl) (fun hb=>?_) (fun hb=>?_)
  ·have next:∀(F1:Fz)(w1:World)(hsh1:Shp Tryd.prog w1),(∀g k,F1 g k->g<w1.heap.size)->J (oH a i) F1 w1 ->
     Wp Tryd.prog 19 F1 (.top w1 hsh1) (K33 l a e) [] (cB (cB (cI (cI (cB (cF Tryd.f33)))))) (Exit.then (fun a w=>Lp none Tryd.prog (cI (cI (cB (cF Tryd.f33)))) (Exit.inBlock 0 (bodyPostM (Fr none) 0 Tryd.prog Tryd.f33 (sZ (J []) Jx))) a w) (Exit.inBlock 0 (bodyPostM (Fr none) 0 Tryd.prog Tryd.f33 (sZ (J []) Jx)))):=by
    intro F1 w1 hsh1 hF1 hJ1
    refine Wp.region hΓ [] [] [] [0,1,3] [] (K':=K33 l a (IntKind.wrap .i64 (e-1))) (L':=[]) (ob:=[]) (by kernel_rfl) ax.nil ?_
    refine To.again ?_
    exact ih (by omega) _ (by rw[he'];exact yQ (by omega)) F1 w1 hsh1 hF1 hJ1
   refine Wp.skip ?_
   refine To.aj ?_
   refine Wp.seq ?_
   refine Wp.block ?_
   refine Wp.seq ?_
   refine Wp.zL hΓ 6 l [] [] [] [0,1,3,18] (hs.wq (oH a (i+1))) (J1:=J (oH a (i+1))) (J2:=J (oH a i)) (Jx:=Jx)
    (ds:=fun _=>po (e,(a[Int.toNat e]?.getD aP))) (gv:=true) (K2:=fun b=>K33 l a e++[(18,.val (.bool (!b)))])
    (ob:=fun _=>[decide (0<=e/\e<(List.length a:Int))=true]) (fun b=>by kernel_rfl) (fun b=>ax.cons (decide_eq_true (by omega)) ax.nil) hF hJ ?_ ?_ (fun h=>by cases h)
   ·intro _ F w args hJ' hfr hsh' hr
    have hr:aA F w NB (po ((i:Int),(a[i]?.getD aP))) args:=by
     have e2:Int.toNat e=i:=by omega
     rw[he',Int.toNat_natCast] at hr;exact hr
    exact hy _ _ F w args hJ' hfr hsh' hr
   ·intro _ b F1 w1 hsh1 hJb hfr1
    refine To.aj ?_
    refine Wp.cond (b:=!b) (by kernel_rfl) (fun hb2=>?_) (fun hb2=>?_)
    ·have hbf:b=false:=by simpa using hb2
     rw[hbf,if_neg (by decide)] at hJb
     refine Wp.ret ?_
     refine To.bH ?_
     refine To.aX ?_
     refine To.aX ?_
     refine To.bH ?_
     exact To.yG (r:=.tup []) hΓ hs hsx (.inr hJb) (by kernel_rfl)
    ·have hbt:b=true:=by simpa using hb2
     rw[hbt,if_pos rfl] at hJb
     refine Wp.skip ?_
     refine To.bT ?_
     refine To.aj ?_
     refine Wp.keep (kk:=[0,1,3]) (kl:=[]) (K':=K33 l a e) (L':=[]) (by kernel_rfl) (by kernel_rfl) ?_
     exact next F1 w1 hsh1 hfr1 hJb
  ·have:=of_decide_eq_false hb;omega
theorem DJ(n:Nat)(x:List Sv)(xs:List (Int×Sv))(h:oq n x=some xs):Bn Tryd.prog 33 [.el [svD x]] po xs:=by
 unfold oq at h
 obtain⟨hc,h⟩:=bg h
 cases h
 have hlen:=of_decide_eq_true hc
 have hlim:limit=140737488355328:=rfl
 refine EZ (fn:=Tryd.f33) (by kernel_rfl) rfl (by kernel_rfl) (Nat.le_of_ble_eq_true (by kernel_rfl)) fun l J Jx hs hsx hy F0 wt hsh hJ hF=>?_
 refine Wp.seq ?_
 refine Wp.region hΓ [] [] [] [0,1,3] [] (K':=K33 l x (IntKind.wrap .i64 ((List.length x:Int)-1))) (L':=[]) (ob:=[]) (by kernel_rfl) ax.nil ?_
 refine To.aj ?_
 refine Wp.block ?_
 refine Wp.dE ?_
 exact Ha x hlen l J Jx hs hsx hy x.length (Nat.le_refl _) _ (yQ (by omega)) F0 wt hsh hF hJ
end Go.Proofs.YtpmmhhmhckpnfaaDoor.M
