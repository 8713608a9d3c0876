import Derived.Test.YtefojkdckfidcaaGreatDoorQRxAnyB
import Derived.Test.YtefojkdckfidcaaGreatDoorQMB11d
import Derived.Test.YtefojkdckfidcaaGreatDoorQRxIZ
set_option linter.all false
namespace Go.Proofs.YtefojkdckfidcaaGreatDoor.PL
open Go Go.Proofs.YtefojkdckfidcaaGreatDoor.RX
theorem iQ(x:Int)(h1:-9223372036854775808<=x)(h2:x<=9223372036854775807):IntKind.wrap .i64 x=x:=by
 simp only[IntKind.wrap,IntKind.bits,IntKind.signed,Bool.true_and,decide_eq_true_eq,show((2:Int) ^ (64-1))=9223372036854775808 from rfl,show((2:Int) ^ 64)=18446744073709551616 from rfl]
 split<;>omega
theorem wrap_add(i k:Nat)(h:i+k<1000000000000):IntKind.wrap .i64 ((i:Int)+(k:Int))=((i+k:Nat):Int):=by rw[iQ _ (by omega) (by omega)];omega
theorem aZ(i:Nat)(h:i<1000000000):IntKind.wrap .i64 ((i:Int)+1)=((i+1:Nat):Int):=by rw[iQ _ (by omega) (by omega)];omega
theorem CY(i:Nat)(h:i<1000000000):IntKind.wrap .i64 ((i:Int)+2)=((i+2:Nat):Int):=by rw[iQ _ (by omega) (by omega)];omega
theorem sW(i:Nat)(h:i<1000000000)(h0:0<i):IntKind.wrap .i64 ((i:Int)-1)=((i-1:Nat):Int):=by rw[iQ _ (by omega) (by omega)];omega
theorem cY{α:Type}{l:List α}{d:α}{i:Nat}(h:i<l.length):(l[Int.toNat (i:Int)]?.getD d)=l[i]:=by simp[h]
theorem bU{α:Type}{l:List α}{i:Nat}(h:i<l.length):decide (0<=(i:Int)/\(i:Int)<(List.length l:Int))=true:=by simp;omega
theorem gy{i n:Nat}(h:i<n):decide ((i:Int)<(n:Int))=true:=by simp;omega
theorem iM{i n:Nat}(h:n<=i):decide ((i:Int)<(n:Int))=false:=by simp;omega
theorem gx{p:UInt8->Prop}(h:∀n,n<256->p (UInt8.ofNat n))(c:UInt8):p c:=by
 have:=h c.toNat c.toNat_lt
 rwa[UInt8.ofNat_toNat] at this
theorem fits{a b:Nat}(h:a+b<=10000000):decide ((a+b)*(1+1)<=limit)=true:=by
 exact decide_eq_true (by show(a+b)*(1+1)<=140737488355328;omega)
theorem ic(c:UInt8)(k:Nat)(hk:k<256):((c.toNat:Int)==(k:Int))=decide (c=UInt8.ofNat k):=by
 rw[Bool.eq_iff_iff,beq_iff_eq,decide_eq_true_eq]
 constructor
 ·intro h
  have:c.toNat=k:=by omega
  rw[<-this,UInt8.ofNat_toNat]
 ·intro h;subst h;simp;omega
end Go.Proofs.YtefojkdckfidcaaGreatDoor.PL
namespace Go.Proofs.YtefojkdckfidcaaGreatDoor.M
open Go.RowKit Go.Proofs.YtefojkdckfidcaaGreatDoor.RX
set_option maxRecDepth 100000
def ndC(x:af):List D:=[.val (.int .i64 x.aF),.str x.au,.recs (α:=Bs) [] gw x.aA,.tree (α:=af) (af.mk 0 [] [] []) bZ bM x.aj]
def kL(x:Bs):List D:=[.str x]
theorem zO(x:af):bC Tryz.prog 43 [.agg [.val (.int .i64 x.aF),.str x.au,.recs (α:=Bs) [] gw x.aA,.tree (α:=af) (af.mk 0 [] [] []) bZ bM x.aj]]
    (.fn 78 [.el [.val (.int .i64 x.aF),.str x.au,.recs (α:=Bs) [] gw x.aA,.tree (α:=af) (af.mk 0 [] [] []) bZ bM x.aj]]):=by
  refine DD (fn:=Tryz.f43) (by kernel_rfl) rfl (by kernel_rfl) (Nat.le_of_ble_eq_true (by kernel_rfl)) fun F0 w0 _=>?_
  refine Wp.seq ?_
  refine Wp.region hΓ [] [] [] [1] [1] (K':=[(1,.own 1 0)]) (L':=[(1,26,ndC x)]) (ob:=[]) (by kernel_rfl) ax.nil ?_
  refine To.ai ?_
  refine Wp.seq ?_
  refine Wp.region hΓ [(0,[1])] [] [] [2] [] (K':=[(2,.fn 78 [.el (ndC x)])]) (L':=[]) (ob:=[]) (by kernel_rfl) ax.nil ?_
  refine To.ai ?_
  refine Wp.ret ?_
  exact To.done hΓ (by kernel_rfl)
def zN:Bs->Ls->Option (Ls)
  |_,[]=>some []
  |h,r::t=>if(decide (((List.length h+List.length r:Nat):Int)<=9223372036854775807))=true then(zN [32,32] t).bind fun q=>some ((h++r)::q) else none
def vU(R:af->Option (Ls))(k:af)(s:Bs×Bool)(h:Bs):Option (Ls) :=
  if s.2=true then(if(decide (((List.length h+List.length s.1:Nat):Int)<=9223372036854775807))=true then some [h++s.1] else none) else(R k).bind fun rs=>zN h rs
def FY(n:Nat)(R:af->Option (Ls))(a k:af)(i:Int):Option (Ls) :=
  (nh n k).bind fun s =>
  if(a.aF==3)=true then
    (if(decide (0<=i/\i<(List.length a.aA:Int)))=true then(sO n ((a.aA)[Int.toNat i]?.getD [])).bind fun ky =>
      if(decide (((List.length ky+List.length ([58]:Bs):Nat):Int)<=9223372036854775807))=true then
        (if s.2=true then(if(decide (((List.length (ky++[58])+List.length ([32]:Bs):Nat):Int)<=9223372036854775807))=true then vU R k s ((ky++[58])++[32]) else none)
         else(vU R k s [32,32]).bind fun q=>some ((ky++[58])::q))
      else none
     else none)
  else vU R k s [45,32]
def ui(n:Nat)(R:af->Option (Ls))(a:af):List af->Nat->Option (Ls)
  |[],_=>some []
  |k::l,i=>(FY n R a k (i:Int)).bind fun r=>(ui n R a l (i+1)).bind fun q=>some (r++q)
def Jq(n:Nat)(R:af->Option (Ls))(a:af):Option (Ls) :=
  (nh n a).bind fun s=>if s.2=true then some [s.1] else(if(decide (List.length a.aj<=limit))=true then ui n R a a.aj 0 else none)
def qB(n:Nat):Nat->af->Option (Ls)
  |0,_=>none
  |d+1,a=>Jq n (qB n d) a
def uk(n:Nat)(a:af):Option (Ls):=qB n n a
abbrev y78(l:Nat):Value:=.func (.yield l) #[] #[]
abbrev K78(a:af)(i:Int):List (Nat×D):=[(1,.el (ndC a)),(2,.own 2 0),(22,.tree (α:=af) (af.mk 0 [] [] []) bZ bM a.aj),(23,.val (.int .i64 (List.length a.aj:Int))),(24,.val (.int .i64 i))]
abbrev L78(l:Nat):ay:=[(2,31,[.val (y78 l)])]
abbrev S78(l:Nat)(s:Bs):ay:=[(2,31,[.val (y78 l)]),(9,9,[.str s]),(10,9,[.str [32,32]])]
section
variable {J:Ls->Fz->(Nat->Prop)->World->Prop} {Jx:Fz->(Nat->Prop)->World->Prop} {Q:Exit->Act->World->Prop} {F0:Fz} {w0:Pt Tryz.prog} {X:Nat->Prop} {Fx:Fz} {W:World}
theorem Nw(R:af->Option (Ls))(a k:af)(i:Int)(l:Nat)(hs:jb Tryz.prog J)(hsx:jb Tryz.prog (fun(_:Unit)=>Jx))(hY:sH Tryz.prog l kL J Jx)(hR:∀rs,R k=some rs->wK Tryz.prog 78 [.el (ndC k)] kL rs)(s:Bs×Bool)(h:Bs)(r q:Ls)(hr:vU R k s h=some r)
    (hro:w0.rnd=none) (hat:AtI (J (r++q)) X Fx W F0 w0)
    (hN:∀e:Exit,e=.normal\/e=.exit 1->∀(F1:Fz)(w1:Pt Tryz.prog)(X:Nat->Prop)(Fx:Fz)(W:World),w1.rnd=none->AtI (J q) X Fx W F1 w1->To 70 F1 w1 (K78 a i) (L78 l) e Q)
    (hX:∀(F1:Fz)(w1:Pt Tryz.prog)(X:Nat->Prop)(Fx:Fz)(W:World),AtI Jx X Fx W F1 w1->To 70 F1 w1 [] [] .ret Q) :
    Wp Tryz.prog 70 F0 w0 [(1,.el (ndC a)),(2,.own 2 0),(6,.own 6 0),(7,.str s.1),(8,.val (.bool s.2)),(9,.own 9 0),(10,.own 10 0),(22,.tree (α:=af) (af.mk 0 [] [] []) bZ bM a.aj),(23,.val (.int .i64 (List.length a.aj:Int))),(24,.val (.int .i64 i))] [(2,31,[.val (y78 l)]),(6,26,ndC k),(9,9,[.str h]),(10,9,[.str [32,32]])] (cB (cB (cB (cB (cI (cA (cB (cB (cI (cI (cB (cB (cB (cF Tryz.f78)))))))))))))) Q:=by
  unfold vU at hr
  refine Wp.seq ?_
  refine Wp.seq ?_
  refine Wp.region hΓ [] [] [] [1,2,6,7,9,10,22,23,24,52] [2,6,9,10] (K':=[(1,.el (ndC a)),(2,.own 2 0),(6,.own 6 0),(7,.str s.1),(9,.own 9 0),(10,.own 10 0),(22,.tree (α:=af) (af.mk 0 [] [] []) bZ bM a.aj),(23,.val (.int .i64 (List.length a.aj:Int))),(24,.val (.int .i64 i)),(52,.val (.bool s.2))]) (L':=[(2,31,[.val (y78 l)]),(6,26,ndC k),(9,9,[.str h]),(10,9,[.str [32,32]])]) (ob:=[]) (by kernel_rfl) ax.nil ?_
  refine To.ai ?_
  refine Wp.cond (b:=s.2) (by kernel_rfl) (fun hb=>?_) (fun hb=>?_)
  · replace hr:=jC hb hr
    obtain⟨hc,hr⟩:=aK hr
    cases hr
    refine Wp.seq ?_
    refine Wp.seq ?_
    refine Wp.Be hΓ 4 l [] [] [] [1,2,22,23,24,58] [2] hs hY (h++s.1) q hat (fun b=>K78 a i++[(58,.val (.bool (!b)))]) (fun _=>L78 l) (fun _=>[(decide (((List.length h+List.length s.1:Nat):Int)<=9223372036854775807))=true]) (fun b=>by kernel_rfl) (fun b=>ax.cons hc ax.nil) ?_
    intro b F1 w1 hr1 he1 hat1
    refine To.pR hr1 ?_
    refine Wp.cond (b:=!b) (by kernel_rfl) (fun hb2=>?_) (fun hb2=>?_)
    · have hbf:b=false:=by simpa using hb2
      subst hbf
      rw[if_neg (by decide)] at hat1
      refine Wp.ret ?_
      refine To.aO ?_
      refine To.aO ?_
      refine To.keep (kk:=[]) (kl:=[]) (K':=[]) (L':=[]) (by kernel_rfl) (by kernel_rfl) ?_
      exact hX F1 w1 _ _ _ hat1
    · have hbt:b=true:=by simpa using hb2
      subst hbt
      rw[if_pos rfl] at hat1
      refine Wp.skip ?_
      refine To.pR hr1 ?_
      refine Wp.exit ?_
      refine To.dZ ?_
      refine To.keep (kk:=[1,2,22,23,24]) (kl:=[2]) (K':=K78 a i) (L':=L78 l) (by kernel_rfl) (by kernel_rfl) ?_
      exact hN (.exit 1) (.inr rfl) F1 w1 _ _ _ (hr1.trans hro) hat1
  · replace hr:=zl hb hr
    obtain⟨rs,hrs,hr⟩:=aG hr
    refine Wp.skip ?_
    refine To.ai ?_
    refine Wp.seq ?_
    refine Wp.region hΓ [] [(1,.fn 78 [.el (ndC k)])] [] [1,2,9,10,22,23,24,60] [2,9,10] (K':=[(1,.el (ndC a)),(2,.own 2 0),(9,.own 9 0),(10,.own 10 0),(22,.tree (α:=af) (af.mk 0 [] [] []) bZ bM a.aj),(23,.val (.int .i64 (List.length a.aj:Int))),(24,.val (.int .i64 i)),(60,.fn 78 [.el (ndC k)])]) (L':=S78 l h) (ob:=[(true=true->CX Tryz.prog 43 [.agg (ndC k)] (.fn 78 [.el (ndC k)]))]) (by kernel_rfl) (ax.cons (fun _=>cx (zO k)) ax.nil) ?_
    refine To.ai ?_
    refine Wp.block ?_
    refine Wp.JH (nt:=70) (encs:=kL) (xs:=rs) [2,9,10] (S78 l) (fun rs' s' F U w=>∃r',zN s' rs'=some r'/\J (r'++q) F U w) Jx [(2,.own 2 0),(9,.own 9 0),(10,.own 10 0)] (K78 a i) [2,9,10] [1,2,22,23,24] h (fun x s'=>[(2,.own 1000002 0),(9,.own 1000009 0),(10,.own 1000010 0),(11,.str x)])
      (fun r' s' _ F U w F' U' w' ⟨r2,h1,h2⟩ ht=>⟨r2,h1,hs _ _ _ _ _ _ _ h2 ht⟩) hsx hro (by kernel_rfl) (by kernel_rfl) (hR rs hrs) ⟨⟨r,hr,hat.inv⟩,hat.lt,hat.dis,hat.frz,hat.marks,hat.high,hat.kept,hat.size,hat.ref⟩ rfl (fun s'=>by kernel_rfl) (fun s'=>rfl) (fun x=>rfl) (by decide) (by decide) (fun x=>by kernel_rfl) (by kernel_rfl) (by kernel_rfl) (by kernel_rfl) (by kernel_rfl) ?_ ?_ ?_ ?_
    · intro x s' F' w1
      refine Wp.region hΓ [] [] [] [2,9,10,11] [1000002,1000009,1000010] (K':=[(2,.own 1000002 0),(9,.own 1000009 0),(10,.own 1000010 0),(11,.str x)]) (L':=Lup (S78 l s')) (ob:=[]) (by kernel_rfl) ax.nil ?_
      exact fun a w hst=>⟨rfl,hst⟩
    · intro x r' s' F' w1 X' W' hat'
      obtain⟨r2,h1,h2⟩:=hat'.inv
      unfold zN at h1
      obtain⟨hc,h1⟩:=aK h1
      obtain⟨q2,hq2,h1⟩:=aG h1
      cases h1
      refine Wp.block ?_
      refine Wp.seq ?_
      refine Wp.seq ?_
      refine Wp.Be hΓ 4 l [] [] [] [9,10,67] [1000002,1000009,1000010] hs hY (s'++x) (q2++q) ⟨h2,hat'.lt,hat'.dis,hat'.frz,hat'.marks,hat'.high,hat'.kept,hat'.size,hat'.ref⟩ (fun b=>[(9,.own 1000009 0),(10,.own 1000010 0),(67,.val (.bool (!b)))]) (fun _=>Lup (S78 l s')) (fun _=>[(decide (((List.length s'+List.length x:Nat):Int)<=9223372036854775807))=true]) (fun b=>by kernel_rfl) (fun b=>ax.cons hc ax.nil) ?_
      intro b F1 w1' hr1 he1 hat1
      refine To.pR hr1 ?_
      refine Wp.cond (b:=!b) (by kernel_rfl) (fun hb2=>?_) (fun hb2=>?_)
      · have hbf:b=false:=by simpa using hb2
        subst hbf
        rw[if_neg (by decide)] at hat1
        refine Wp.ret ?_
        refine To.aO ?_
        refine To.aX ?_
        rintro a3 w3 ⟨B3,F3,hb3,_⟩
        exact⟨_,F1,w1',B3,F3,hb3,by kernel_rfl,hat1⟩
      · have hbt:b=true:=by simpa using hb2
        subst hbt
        rw[if_pos rfl] at hat1
        refine Wp.skip ?_
        refine To.pR hr1 ?_
        refine Wp.region hΓ [] [] [] [] [1000002,1000009,1000010] (K':=[]) (L':=Lup (S78 l [32,32])) (ob:=[]) (by kernel_rfl) ax.nil ?_
        refine To.br ?_
        rintro a3 w3 ⟨B3,F3,hb3,_⟩
        exact⟨[32,32],F1,w1',B3,F3,hb3,⟨⟨q2,hq2,hat1.inv⟩,hat1.lt,hat1.dis,hat1.frz,hat1.marks,hat1.high,hat1.kept,hat1.size,hat1.ref⟩,he1⟩
    · intro s' F1 w1 X' W' hr1 hat1
      obtain⟨r2,h1,h2⟩:=hat1.inv
      unfold zN at h1
      cases h1
      refine To.br ?_
      refine To.keep (kk:=[1,2,22,23,24]) (kl:=[2]) (K':=K78 a i) (L':=L78 l) (by kernel_rfl) (by kernel_rfl) ?_
      exact hN .normal (.inl rfl) F1 w1 _ _ _ hr1 ⟨h2,hat1.lt,hat1.dis,hat1.frz,hat1.marks,hat1.high,hat1.kept,hat1.size,hat1.ref⟩
    · intro F1 w1 X' W' hr1 hat1
      refine Wp.ret ?_
      refine To.aX ?_
      exact hX F1 w1 _ _ _ hat1
theorem RS(n:Nat)(R:af->Option (Ls))(a:af)(i l:Nat)(hs:jb Tryz.prog J)(hsx:jb Tryz.prog (fun(_:Unit)=>Jx))(hY:sH Tryz.prog l kL J Jx)(hi:decide (0<=(i:Int)/\(i:Int)<(List.length a.aj:Int))=true)(hR:∀rs,R ((a.aj)[Int.toNat (i:Int)]?.getD (af.mk 0 [] [] []))=some rs->wK Tryz.prog 78 [.el (ndC ((a.aj)[Int.toNat (i:Int)]?.getD (af.mk 0 [] [] [])))] kL rs)(r q:Ls)(hr:FY n R a ((a.aj)[Int.toNat (i:Int)]?.getD (af.mk 0 [] [] [])) (i:Int)=some r)
    (hro:w0.rnd=none) (hat:AtI (J (r++q)) X Fx W F0 w0)
    (hN:∀e:Exit,e=.normal\/e=.exit 1->∀(F1:Fz)(w1:Pt Tryz.prog)(X:Nat->Prop)(Fx:Fz)(W:World),w1.rnd=none->AtI (J q) X Fx W F1 w1->To 70 F1 w1 (K78 a (i:Int)) (L78 l) e Q)
    (hX:∀(F1:Fz)(w1:Pt Tryz.prog)(X:Nat->Prop)(Fx:Fz)(W:World),AtI Jx X Fx W F1 w1->To 70 F1 w1 [] [] .ret Q) :
    Wp Tryz.prog 70 F0 w0 (K78 a (i:Int)) (L78 l) (cI (cA (cB (cB (cI (cI (cB (cB (cB (cF Tryz.f78)))))))))) Q:=by
  unfold FY at hr
  obtain⟨s,hs1,hr⟩:=aG hr
  refine Wp.seq ?_
  refine Wp.region hΓ [] [] [] [1,2,5,6,22,23,24] [2,6] (K':=[(1,.el (ndC a)),(2,.own 2 0),(5,.val (.int .i64 (i:Int))),(6,.own 6 0),(22,.tree (α:=af) (af.mk 0 [] [] []) bZ bM a.aj),(23,.val (.int .i64 (List.length a.aj:Int))),(24,.val (.int .i64 (i:Int)))]) (L':=[(2,31,[.val (y78 l)]),(6,26,ndC ((a.aj)[Int.toNat (i:Int)]?.getD (af.mk 0 [] [] [])))]) (ob:=[(decide (0<=(i:Int)/\(i:Int)<(List.length a.aj:Int)))=true]) (by kernel_rfl) (ax.cons hi ax.nil) ?_
  refine To.ai ?_
  refine Wp.seq ?_
  refine Wp.region hΓ [] [(1,.tup [.str s.1,.val (.bool s.2)])] [] [1,2,5,6,7,8,22,23,24] [2,6] (K':=[(1,.el (ndC a)),(2,.own 2 0),(5,.val (.int .i64 (i:Int))),(6,.own 6 0),(7,.str s.1),(8,.val (.bool s.2)),(22,.tree (α:=af) (af.mk 0 [] [] []) bZ bM a.aj),(23,.val (.int .i64 (List.length a.aj:Int))),(24,.val (.int .i64 (i:Int)))]) (L':=[(2,31,[.val (y78 l)]),(6,26,ndC ((a.aj)[Int.toNat (i:Int)]?.getD (af.mk 0 [] [] [])))]) (ob:=[(true=true->CX Tryz.prog 79 [.agg (ndC ((a.aj)[Int.toNat (i:Int)]?.getD (af.mk 0 [] [] [])))] (.tup [.str s.1,.val (.bool s.2)]))]) (by kernel_rfl) (ax.cons (fun _=>cx (wS n ((a.aj)[Int.toNat (i:Int)]?.getD (af.mk 0 [] [] [])) _ hs1)) ax.nil) ?_
  refine To.ai ?_
  refine Wp.seq ?_
  refine Wp.region hΓ [] [] [] [1,2,5,6,7,8,9,10,22,23,24] [2,6,9,10] (K':=[(1,.el (ndC a)),(2,.own 2 0),(5,.val (.int .i64 (i:Int))),(6,.own 6 0),(7,.str s.1),(8,.val (.bool s.2)),(9,.own 9 0),(10,.own 10 0),(22,.tree (α:=af) (af.mk 0 [] [] []) bZ bM a.aj),(23,.val (.int .i64 (List.length a.aj:Int))),(24,.val (.int .i64 (i:Int)))]) (L':=[(2,31,[.val (y78 l)]),(6,26,ndC ((a.aj)[Int.toNat (i:Int)]?.getD (af.mk 0 [] [] []))),(9,9,[.str [45,32]]),(10,9,[.str [32,32]])]) (ob:=[]) (by kernel_rfl) ax.nil ?_
  refine To.ai ?_
  refine Wp.seq ?_
  refine Wp.seq ?_
  refine Wp.region hΓ [] [] [] [1,2,5,6,7,8,9,10,22,23,24,36] [2,6,9,10] (K':=[(1,.el (ndC a)),(2,.own 2 0),(5,.val (.int .i64 (i:Int))),(6,.own 6 0),(7,.str s.1),(8,.val (.bool s.2)),(9,.own 9 0),(10,.own 10 0),(22,.tree (α:=af) (af.mk 0 [] [] []) bZ bM a.aj),(23,.val (.int .i64 (List.length a.aj:Int))),(24,.val (.int .i64 (i:Int))),(36,.val (.bool (a.aF==3)))]) (L':=[(2,31,[.val (y78 l)]),(6,26,ndC ((a.aj)[Int.toNat (i:Int)]?.getD (af.mk 0 [] [] []))),(9,9,[.str [45,32]]),(10,9,[.str [32,32]])]) (ob:=[]) (by kernel_rfl) ax.nil ?_
  refine To.ai ?_
  refine Wp.cond (b:=(a.aF==3)) (by kernel_rfl) (fun hb=>?_) (fun hb=>?_)
  · replace hr:=jC hb hr
    obtain⟨hk,hr⟩:=aK hr
    obtain⟨ky,hky,hr⟩:=aG hr
    obtain⟨hc,hr⟩:=aK hr
    refine Wp.seq ?_
    refine Wp.region hΓ [] [(5,.str ky)] [] [1,2,6,7,8,9,10,22,23,24] [2,6,9,10] (K':=[(1,.el (ndC a)),(2,.own 2 0),(6,.own 6 0),(7,.str s.1),(8,.val (.bool s.2)),(9,.own 9 0),(10,.own 10 0),(22,.tree (α:=af) (af.mk 0 [] [] []) bZ bM a.aj),(23,.val (.int .i64 (List.length a.aj:Int))),(24,.val (.int .i64 (i:Int)))]) (L':=[(2,31,[.val (y78 l)]),(6,26,ndC ((a.aj)[Int.toNat (i:Int)]?.getD (af.mk 0 [] [] []))),(9,9,[.str (ky++[58])]),(10,9,[.str [32,32]])]) (ob:=[(decide (0<=(i:Int)/\(i:Int)<(List.length a.aA:Int)))=true,(true=true->CX Tryz.prog 80 [.str ((a.aA)[Int.toNat (i:Int)]?.getD [])] (.str ky)),(decide (((List.length ky+List.length ([58]:Bs):Nat):Int)<=9223372036854775807))=true]) (by kernel_rfl) (ax.cons hk (ax.cons (fun _=>cx (G0 n _ _ hky)) (ax.cons hc ax.nil))) ?_
    refine To.ai ?_
    refine Wp.seq ?_
    refine Wp.region hΓ [] [] [] [1,2,6,7,8,9,10,22,23,24,44] [2,6,9,10] (K':=[(1,.el (ndC a)),(2,.own 2 0),(6,.own 6 0),(7,.str s.1),(8,.val (.bool s.2)),(9,.own 9 0),(10,.own 10 0),(22,.tree (α:=af) (af.mk 0 [] [] []) bZ bM a.aj),(23,.val (.int .i64 (List.length a.aj:Int))),(24,.val (.int .i64 (i:Int))),(44,.val (.bool s.2))]) (L':=[(2,31,[.val (y78 l)]),(6,26,ndC ((a.aj)[Int.toNat (i:Int)]?.getD (af.mk 0 [] [] []))),(9,9,[.str (ky++[58])]),(10,9,[.str [32,32]])]) (ob:=[]) (by kernel_rfl) ax.nil ?_
    refine To.ai ?_
    refine Wp.cond (b:=s.2) (by kernel_rfl) (fun hb2=>?_) (fun hb2=>?_)
    · replace hr:=jC hb2 hr
      obtain⟨hc2,hr⟩:=aK hr
      refine Wp.region hΓ [] [] [] [1,2,6,7,8,9,10,22,23,24] [2,6,9,10] (K':=[(1,.el (ndC a)),(2,.own 2 0),(6,.own 6 0),(7,.str s.1),(8,.val (.bool s.2)),(9,.own 9 0),(10,.own 10 0),(22,.tree (α:=af) (af.mk 0 [] [] []) bZ bM a.aj),(23,.val (.int .i64 (List.length a.aj:Int))),(24,.val (.int .i64 (i:Int)))]) (L':=[(2,31,[.val (y78 l)]),(6,26,ndC ((a.aj)[Int.toNat (i:Int)]?.getD (af.mk 0 [] [] []))),(9,9,[.str ((ky++[58])++[32])]),(10,9,[.str [32,32]])]) (ob:=[(decide (((List.length (ky++[58])+List.length ([32]:Bs):Nat):Int)<=9223372036854775807))=true]) (by kernel_rfl) (ax.cons hc2 ax.nil) ?_
      refine To.ai ?_
      exact Nw R a _ _ l hs hsx hY hR s _ r q hr hro hat hN hX
    · replace hr:=zl hb2 hr
      obtain⟨r2,hr2,hr⟩:=aG hr
      cases hr
      refine Wp.seq ?_
      refine Wp.Be hΓ 2 l [] [] [] [1,2,6,7,8,9,10,22,23,24,50] [2,6,9,10] hs hY (ky++[58]) (r2++q) hat (fun b=>[(1,.el (ndC a)),(2,.own 2 0),(6,.own 6 0),(7,.str s.1),(8,.val (.bool s.2)),(9,.own 9 0),(10,.own 10 0),(22,.tree (α:=af) (af.mk 0 [] [] []) bZ bM a.aj),(23,.val (.int .i64 (List.length a.aj:Int))),(24,.val (.int .i64 (i:Int))),(50,.val (.bool (!b)))]) (fun _=>[(2,31,[.val (y78 l)]),(6,26,ndC ((a.aj)[Int.toNat (i:Int)]?.getD (af.mk 0 [] [] []))),(9,9,[.str (ky++[58])]),(10,9,[.str [32,32]])]) (fun _=>[]) (fun b=>by kernel_rfl) (fun b=>ax.nil) ?_
      intro b F1 w1 hr1 he1 hat1
      refine To.pR hr1 ?_
      refine Wp.cond (b:=!b) (by kernel_rfl) (fun hb3=>?_) (fun hb3=>?_)
      · have hbf:b=false:=by simpa using hb3
        subst hbf
        rw[if_neg (by decide)] at hat1
        refine Wp.ret ?_
        refine To.aO ?_
        refine To.keep (kk:=[]) (kl:=[]) (K':=[]) (L':=[]) (by kernel_rfl) (by kernel_rfl) ?_
        exact hX F1 w1 _ _ _ hat1
      · have hbt:b=true:=by simpa using hb3
        subst hbt
        rw[if_pos rfl] at hat1
        refine Wp.region hΓ [] [] [] [1,2,6,7,8,9,10,22,23,24] [2,6,9,10] (K':=[(1,.el (ndC a)),(2,.own 2 0),(6,.own 6 0),(7,.str s.1),(8,.val (.bool s.2)),(9,.own 9 0),(10,.own 10 0),(22,.tree (α:=af) (af.mk 0 [] [] []) bZ bM a.aj),(23,.val (.int .i64 (List.length a.aj:Int))),(24,.val (.int .i64 (i:Int)))]) (L':=[(2,31,[.val (y78 l)]),(6,26,ndC ((a.aj)[Int.toNat (i:Int)]?.getD (af.mk 0 [] [] []))),(9,9,[.str [32,32]]),(10,9,[.str [32,32]])]) (ob:=[]) (by kernel_rfl) ax.nil ?_
        refine To.pR hr1 ?_
        exact Nw R a _ _ l hs hsx hY hR s _ r2 q hr2 (hr1.trans hro) hat1 hN hX
  · replace hr:=zl hb hr
    refine Wp.skip ?_
    refine To.ai ?_
    refine Wp.keep (kk:=[1,2,6,7,8,9,10,22,23,24]) (kl:=[2,6,9,10]) (K':=[(1,.el (ndC a)),(2,.own 2 0),(6,.own 6 0),(7,.str s.1),(8,.val (.bool s.2)),(9,.own 9 0),(10,.own 10 0),(22,.tree (α:=af) (af.mk 0 [] [] []) bZ bM a.aj),(23,.val (.int .i64 (List.length a.aj:Int))),(24,.val (.int .i64 (i:Int)))]) (L':=[(2,31,[.val (y78 l)]),(6,26,ndC ((a.aj)[Int.toNat (i:Int)]?.getD (af.mk 0 [] [] []))),(9,9,[.str [45,32]]),(10,9,[.str [32,32]])]) (by kernel_rfl) (by kernel_rfl) ?_
    exact Nw R a _ _ l hs hsx hY hR s _ r q hr hro hat hN hX
theorem Sm(n:Nat)(R:af->Option (Ls))(a:af)(l:Nat)(hs:jb Tryz.prog J)(hsx:jb Tryz.prog (fun(_:Unit)=>Jx))(hY:sH Tryz.prog l kL J Jx)(hlen:a.aj.length<=limit)(hR:∀k rs,R k=some rs->wK Tryz.prog 78 [.el (ndC k)] kL rs) :
    ∀(m i:Nat),i<=a.aj.length->a.aj.length-i<m->∀xs,ui n R a (a.aj.drop i) i=some xs->∀(F0:Fz)(w0:Pt Tryz.prog)(X:Nat->Prop)(Fx:Fz)(W:World),w0.rnd=none->AtI (J xs) X Fx W F0 w0 ->
      WL Tryz.prog 70 F0 w0 (K78 a (i:Int)) (L78 l) (cI (cI (cB (cB (cB (cF Tryz.f78)))))) (Exit.inBlock 0 (bodyPostM (Fr none) 0 Tryz.prog Tryz.f78 (AA (J []) Jx))):=by
  intro m
  induction m with
  |zero=>intro i _ h;omega
  |succ m ih =>
    intro i h1 h2 xs hxs F0 w0 X Fx W hro hat
    refine WL.round ?_
    refine Wp.seq ?_
    refine Wp.region hΓ [] [] [] [1,2,22,23,24,25] [2] (K':=K78 a (i:Int)++[(25,.val (.bool (decide ((i:Int)<(List.length a.aj:Int)))))]) (L':=L78 l) (ob:=[]) (by kernel_rfl) ax.nil ?_
    refine To.ai ?_
    refine Wp.seq ?_
    refine Wp.cond (b:=decide ((i:Int)<(List.length a.aj:Int))) (by kernel_rfl) (fun hb=>?_) (fun hb=>?_)
    · have hlt:i<a.aj.length:=by have:=of_decide_eq_true hb;omega
      have hin:decide (0<=(i:Int)/\(i:Int)<(List.length a.aj:Int))=true:=decide_eq_true ⟨by omega,by omega⟩
      have hk:((a.aj)[Int.toNat (i:Int)]?.getD (af.mk 0 [] [] []))=a.aj[i]:=by rw[Int.toNat_natCast,List.getElem?_eq_getElem hlt];rfl
      rw[List.drop_eq_getElem_cons hlt] at hxs
      unfold ui at hxs
      obtain⟨r,hr,hxs⟩:=aG hxs
      obtain⟨q,hq,hxs⟩:=aG hxs
      cases hxs
      have hwr:IntKind.wrap .i64 ((i:Int)+1)=((i+1:Nat):Int):=by
        have h3:a.aj.length<=140737488355328:=hlen
        rw[PL.iQ _ (by omega) (by omega)];rfl
      refine Wp.skip ?_
      refine To.ai ?_
      refine Wp.seq ?_
      refine Wp.block ?_
      refine Wp.keep (kk:=[1,2,22,23,24]) (kl:=[2]) (K':=K78 a (i:Int)) (L':=L78 l) (by kernel_rfl) (by kernel_rfl) ?_
      have next:∀(F1:Fz)(w1:Pt Tryz.prog)(X:Nat->Prop)(Fx:Fz)(W:World),w1.rnd=none->AtI (J q) X Fx W F1 w1->Wp Tryz.prog 70 F1 w1 (K78 a (i:Int)) (L78 l) (cB (cB (cB (cI (cI (cB (cB (cB (cF Tryz.f78))))))))) (Exit.then (fun a w=>Lp w0.rnd Tryz.prog (cI (cI (cB (cB (cB (cF Tryz.f78)))))) (Exit.inBlock 0 (bodyPostM (Fr none) 0 Tryz.prog Tryz.f78 (AA (J []) Jx))) a w) (Exit.inBlock 0 (bodyPostM (Fr none) 0 Tryz.prog Tryz.f78 (AA (J []) Jx)))):=by
        intro F1 w1 X1 Fx1 W1 hr1 hat1
        refine Wp.region hΓ [] [] [] [1,2,22,23,24] [2] (K':=K78 a (IntKind.wrap .i64 ((i:Int)+1))) (L':=L78 l) (ob:=[]) (by kernel_rfl) ax.nil ?_
        rw[hwr]
        refine To.QU (hr1.trans hro.symm) ?_
        exact ih (i+1) (by omega) (by omega) q hq F1 w1 X1 Fx1 W1 hr1 hat1
      refine RS n R a i l hs hsx hY hin (by rw[hk];exact fun rs=>hR _ rs) r q (by rw[hk];exact hr) hro hat ?_ ?_
      · rintro e (rfl|rfl) F1 w1 X1 Fx1 W1 hr1 hat1
        · refine To.br ?_
          refine To.pR (hr1.trans hro.symm) ?_
          exact next F1 w1 X1 Fx1 W1 hr1 hat1
        · refine To.jH ?_
          refine To.pR (hr1.trans hro.symm) ?_
          exact next F1 w1 X1 Fx1 W1 hr1 hat1
      · intro F1 w1 X1 Fx1 W1 hat1
        refine To.aX ?_
        refine To.aO ?_
        refine To.aO ?_
        refine To.aX ?_
        exact To.Kt hΓ (r:=.tup []) (by kernel_rfl) hsx (fun F U v w h=>⟨⟨v,rfl⟩,F,U,.inr h⟩) hat1 rfl
    · have hi:i=a.aj.length:=by have:=of_decide_eq_false hb;omega
      have hnil:a.aj.drop i=[]:=List.drop_eq_nil_of_le (by omega)
      rw[hnil] at hxs
      unfold ui at hxs
      cases hxs
      refine Wp.exit ?_
      refine To.dZ ?_
      refine To.dZ ?_
      refine To.keep (kk:=[]) (kl:=[]) (K':=[]) (L':=[]) (by kernel_rfl) (by kernel_rfl) ?_
      refine To.jH ?_
      exact To.RE hΓ (r:=.tup []) (by kernel_rfl) (hs.Bg []) (fun F U v w h=>⟨⟨v,rfl⟩,F,U,.inl h⟩) hat rfl
end
theorem IK(n d:Nat)(a:af)(xs:Ls)(h:qB n d a=some xs):wK Tryz.prog 78 [.el (ndC a)] kL xs:=by
  induction d generalizing a xs with
  |zero=>unfold qB at h;cases h
  |succ d ihd =>
    unfold qB Jq at h
    obtain⟨s,hs1,h⟩:=aG h
    refine O0 (fn:=Tryz.f78) (by kernel_rfl) rfl (by kernel_rfl) (Nat.le_of_ble_eq_true (by kernel_rfl)) fun l J Jx hs hsx hY F0 wt hsh hat=>?_
    refine Wp.seq ?_
    refine Wp.region hΓ [] [] [] [1,2] [2] (K':=[(1,.el (ndC a)),(2,.own 2 0)]) (L':=L78 l) (ob:=[]) (by kernel_rfl) ax.nil ?_
    refine To.ai ?_
    refine Wp.seq ?_
    refine Wp.seq ?_
    refine Wp.region hΓ [] [(1,.tup [.str s.1,.val (.bool s.2)])] [] [1,2,3,4] [2] (K':=[(1,.el (ndC a)),(2,.own 2 0),(3,.str s.1),(4,.val (.bool s.2))]) (L':=L78 l) (ob:=[(true=true->CX Tryz.prog 79 [.agg (ndC a)] (.tup [.str s.1,.val (.bool s.2)]))]) (by kernel_rfl) (ax.cons (fun _=>cx (wS n a _ hs1)) ax.nil) ?_
    refine To.ai ?_
    refine Wp.seq ?_
    refine Wp.region hΓ [] [] [] [1,2,3,17] [2] (K':=[(1,.el (ndC a)),(2,.own 2 0),(3,.str s.1),(17,.val (.bool s.2))]) (L':=L78 l) (ob:=[]) (by kernel_rfl) ax.nil ?_
    refine To.ai ?_
    refine Wp.cond (b:=s.2) (by kernel_rfl) (fun hb=>?_) (fun hb=>?_)
    · replace h:=jC hb h
      cases h
      refine Wp.seq ?_
      refine Wp.Be hΓ 2 l [] [] [] [] [] hs hY s.1 [] hat (fun _=>[]) (fun _=>[]) (fun _=>[]) (fun b=>by kernel_rfl) (fun _=>ax.nil) ?_
      intro b F1 w1 hr1 he1 hat1
      refine To.pR hr1 ?_
      refine Wp.ret ?_
      refine To.aO ?_
      cases b with
      |true =>
        rw[if_pos rfl] at hat1
        exact To.Kt hΓ (r:=.tup []) (by kernel_rfl) (hs.Bg []) (fun F U v w h=>⟨⟨v,rfl⟩,F,U,.inl h⟩) hat1 rfl
      |false =>
        rw[if_neg (by decide)] at hat1
        exact To.Kt hΓ (r:=.tup []) (by kernel_rfl) hsx (fun F U v w h=>⟨⟨v,rfl⟩,F,U,.inr h⟩) hat1 rfl
    · replace h:=zl hb h
      obtain⟨hc,h⟩:=aK h
      refine Wp.skip ?_
      refine To.ai ?_
      refine Wp.seq ?_
      refine Wp.region hΓ [] [] [] [1,2,22,23,24] [2] (K':=K78 a 0) (L':=L78 l) (ob:=[]) (by kernel_rfl) ax.nil ?_
      refine To.ai ?_
      refine Wp.block ?_
      refine Wp.lD ?_
      exact Sm n (qB n d) a l hs hsx hY (of_decide_eq_true hc) (fun k rs hk=>ihd k rs hk) (a.aj.length+1) 0 (Nat.zero_le _) (by omega) xs h F0 _ _ _ _ rfl hat
theorem DT(n:Nat)(a:af)(xs:Ls)(h:uk n a=some xs):wK Tryz.prog 78 [.el [.val (.int .i64 a.aF),.str a.au,.recs (α:=Bs) [] gw a.aA,.tree (α:=af) (af.mk 0 [] [] []) bZ bM a.aj]] kL xs:=IK n n a xs h
end Go.Proofs.YtefojkdckfidcaaGreatDoor.M
