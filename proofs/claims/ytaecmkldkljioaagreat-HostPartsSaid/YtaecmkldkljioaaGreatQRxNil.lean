import Derived.Test.YtaecmkldkljioaaGreatQRxGen
import Derived.Lib.LazyBuf
set_option linter.all false
namespace Go.Proofs.YtaecmkldkljioaaGreat.RX
open Go.RowKit
section
variable {P:Program} {nt:Nat} {F0:Fz} {w0:Pt P} {K:List (Nat × D)} {L:Boxes} {Q:Exit → Act → World → Prop}
theorem eqGuard_slice (op:BinOp) (t:Nat) (x y:Operand) (p q:Option Addr) (m n c c':Nat) (w:World):(eqGuard op t x y (.slice p m c) (.slice q n c')).run P w = .ok () w:=by
 unfold eqGuard; split <;> rfl
theorem put_get {a:Act} {t:Nat} {v:Value} (h:t < a.tmps.size):(a.put (some t) v).tmps[t]? = some v:=by
 simp [Act.put,h]
theorem Wp.nilR {id t0 t3 t4 ty yt e:Nat} {neg:Bool} {o1 o2:Oper} {α:Type} {d:α} {enc:α → List D} {l:List α} (hu:P.underlying ty = some (.slice e))
  (h1:o1.op = .move (.tmp t0)) (d1:o1.dst = some t3) (g1:o1.guard = none)
  (h2:o2.op = .binOp (if neg = true then .neq else .eql) ty (.tmp t3) (.const (.slice none 0 0)) yt) (d2:o2.dst = some t4) (g2:o2.guard = none)
  (hlt:t3 < nt ∧ t4 < nt ∧ t3 ≠ t4) (hK:K.lookup t0 = some (.recs d enc l))
  (hA:l = [] → To nt F0 w0 ((t4,.val (.bool (!neg))) :: K.filter fun x=>x.1 != t3 && x.1 != t4) L .normal Q)
  (hB:To nt F0 w0 ((t4,.val (.bool neg)) :: K.filter fun x=>x.1 != t3 && x.1 != t4) L .normal Q) :
  Wp P nt F0 w0 K L (.region id #[o1,o2] false) Q:=by
 rintro a w ⟨B,F,hb,hd,hs,hk⟩
 obtain ⟨v,hv,hr⟩:=hk _ (mem_of_lookup hK)
 have hsl:∃ q n c,v = .slice q n c ∧ (q = none → l = []):=by
  cases hr with
  | recsNil _ _ p=>exact ⟨p,0,0,rfl,fun _=>rfl⟩
  | recs _ _ _ g off cap size vs hz h1 h2 h3 hc=>exact ⟨_,_,_,rfl,fun h=>by cases h⟩
 obtain ⟨q,n,c,rfl,hq⟩:=hsl
 refine wp_region_list ?_
 have e1:(execOp a.eval o1).run P w = .ok (.value (.slice q n c)) w:=by
  unfold execOp
  simp only [h1,eval_tmp hv,Sem.run_pure]
 have hw1:Region.wanted o1 (yielded #[o1,o2] a.tmps) = true:=by simp [Region.wanted,g1]
 unfold wpList
 rw [if_pos hw1]
 refine .inl ?_
 unfold Oper.wp
 rw [e1,Oper.upon_value,d1]
 show wpList P #[o1,o2] Q [o2] (a.put (some t3) (.slice q n c)) w
 have hv3:(a.put (some t3) (.slice q n c)).tmps[t3]? = some (.slice q n c):=put_get (by omega)
 have e2:(execOp (a.put (some t3) (.slice q n c)).eval o2).run P w = .ok (.value (.bool (xor neg q.isNone))) w:=by
  unfold execOp
  have hc:(a.put (some t3) (.slice q n c)).eval (.const (.slice none 0 0)) = .slice none 0 0:=rfl
  cases neg with
  | false =>
   simp only [Bool.false_eq_true,if_false] at h2
   simp only [h2,eval_tmp hv3,hc,Sem.run_bind,eqGuard_slice,Result.andThen_ok,Go.run_eql_slice_nil w ty e q n c hu,Sem.run_pure,Bool.false_xor]
  | true =>
   simp only [if_true] at h2
   have h5:=Go.run_neq_slice_nil (P:=P) w ty e q n c hu
   simp only [h2,eval_tmp hv3,hc,Sem.run_bind,eqGuard_slice,Result.andThen_ok]
   rw [h5]
   simp only [Sem.run_pure,Result.andThen_ok,Bool.true_xor]
 have hw2:Region.wanted o2 (yielded #[o1,o2] (a.put (some t3) (.slice q n c)).tmps) = true:=by simp [Region.wanted,g2]
 unfold wpList
 rw [if_pos hw2]
 refine .inl ?_
 unfold Oper.wp
 rw [e2,Oper.upon_value,d2]
 show wpList P #[o1,o2] Q [] ((a.put (some t3) (.slice q n c)).put (some t4) (.bool (xor neg q.isNone))) w
 have hst:∀ b,xor neg q.isNone = b → St nt F0 w0 ((t4,.val (.bool b)) :: K.filter fun x=>x.1 != t3 && x.1 != t4) L ((a.put (some t3) (.slice q n c)).put (some t4) (.bool (xor neg q.isNone))) w:=by
  intro b hb'
  refine ⟨B,F,hb,by simpa [Act.put] using hd,by simp [Act.put,hs],fun x hx=>?_⟩
  rcases List.mem_cons.1 hx with rfl | hx
  ·exact ⟨_,put_get (by simp [Act.put]; omega),by rw [hb']; exact .val _ rfl⟩
  ·obtain ⟨hx1,hx2⟩:=List.mem_filter.1 hx
   simp only [Bool.and_eq_true,bne_iff_ne,ne_eq] at hx2
   obtain ⟨u,h3,h4⟩:=hk x hx1
   exact ⟨u,by rw [put_other hx2.2,put_other hx2.1]; exact h3,h4⟩
 refine wpList_nil ?_
 cases hqn:q with
 | none =>
  have hl:=hq hqn
  have:=hA hl _ _ (hst (!neg) (by rw [hqn]; cases neg <;> rfl))
  rw [hqn] at this; exact this
 | some x =>
  have:=hB _ _ (hst neg (by rw [hqn]; cases neg <;> rfl))
  rw [hqn] at this; exact this
mutual
def D.plain:D → Bool
 | .val _=>true
 | .str _=>true
 | .agg ds=>D.plains ds
 | .tup ds=>D.plains ds
 | _=>false
def D.plains:List D → Bool
 | []=>true
 | d :: ds=>D.plain d && D.plains ds
end
mutual
theorem Rep.plain {F F':Fz} {w w':World} {B B':Env}:∀ {d:D} {v:Value},D.plain d = true → Rep F w B d v → Rep F' w' B' d v
 | .val _,_,_,hr=>by cases hr; exact .val _ (by assumption)
 | .str _,_,_,hr=>by cases hr; exact .str _
 | .agg ds,_,h,hr=>by cases hr with | agg _ vs hr=>exact .agg ds vs (RepL.plain (ds:=ds) h hr)
 | .tup ds,_,h,hr=>by cases hr with | tup _ vs hr=>exact .tup ds vs (RepL.plain (ds:=ds) h hr)
theorem RepL.plain {F F':Fz} {w w':World} {B B':Env}:∀ {ds:List D} {vs:List Value},D.plains ds = true → RepL F w B ds vs → RepL F' w' B' ds vs
 | [],_,_,.nil=>.nil
 | d :: ds,_,h,.cons _ v _ vs hr hrs=>by
  simp only [D.plains,Bool.and_eq_true] at h
  exact .cons d v ds vs (Rep.plain h.1 hr) (RepL.plain h.2 hrs)
end
def sealAny (L:Boxes):D → Option D
 | .row k=>match L.lookup k with | some (_,[.rowc _ d enc l])=>some (.recs d enc l) | _=>none
 | _=>none
theorem row_recs {F F':Fz} {w:World} {B:Env} {p n cap e m} {α:Type} {d:α} {enc:α → List D} {l:List α} {v:Value} (h:RowOK F w p n cap e m d enc l) (hv:IsRow v p n cap) (hg:Grow F F' w w) (hF:∀ g k,g < w.heap.size → F' g k):Rep F' w B (.recs d enc l) v:=by
 obtain ⟨rfl,h2,h3,xs,h4,h5,h6⟩:=h
 rcases h5.2 with ⟨hp,hn,hc⟩ | ⟨g,cur,fz,hp,hh,hfz,hnc,hcm,hsz,htk⟩
 ·have:l = []:=List.eq_nil_of_length_eq_zero hn
  subst this; subst hp; subst hc
  rcases hv with rfl | ⟨_,_,_,q,rfl⟩
  ·exact .recsNil d enc none
  ·exact .recsNil d enc q
 ·subst hp
  rcases hv with rfl | ⟨h,_⟩
  rotate_left
  ·cases h
  have hlen:=h5.1
  refine .recs d enc l g 0 cap (enc d).length (fun i=>(xs.drop (i * (enc d).length)).take (enc d).length) rfl (fun i hi=>?_) (fun i hi=>?_) (fun i j hi hj=>?_) hnc
  ·have:i * (enc d).length + (enc d).length ≤ l.length * (enc d).length:=by
    rw [← Nat.succ_mul]; exact Nat.mul_le_mul_right _ hi
   simp; omega
  ·have hx:=List.getElem?_eq_getElem hi
   rw [hx]
   exact RepL.flatMap_get (fun x=>(h3 x).1) l xs (h4.grow hg) i _ hx
  ·have hle:i * (enc d).length + (enc d).length ≤ l.length * (enc d).length:=by
    rw [← Nat.succ_mul]; exact Nat.mul_le_mul_right _ hi
   refine ⟨hF _ _ (Array.getElem?_eq_some_iff.1 hh).1,?_⟩
   have hj2:i * (enc d).length + j < xs.length:=by omega
   have h7:=h5.cells (List.getElem?_eq_getElem hj2)
   rw [Nat.zero_add,h7,List.getElem?_take,if_pos hj,List.getElem?_drop,List.getElem?_eq_getElem hj2]
theorem callsB_borrow {f:Nat} {ds ds':List D} {r:D} {Lin:Boxes} (h:CallsX P f ds' r) (hp:D.plain r = true) (hs:D.subs (sealAny Lin) ds = ds') (hno:D.noOwns ds' = true):CallsB P f ds Lin r Lin:=by
 subst hs
 refine ⟨h.1,fun F w1 B args hb hr=>?_⟩
 have hg:Grow F (fun g _=>g < w1.w.heap.size) w1.w w1.w:=⟨fun g k hF=>hb.frz g k hF,fun _ _ _=>rfl⟩
 have hsub:SubOK (fun g _=>g < w1.w.heap.size) w1.w B B (sealAny Lin):=by
  refine ⟨fun d r v he hv=>?_,fun _ _ _=>rfl,fun _ _=>rfl,fun _ _=>rfl,fun _ _=>rfl,fun _ _ _ _ _=>rfl,fun _ _=>rfl⟩
  cases d <;> simp only [sealAny] at he <;> first | (cases he; done) | skip
  split at he
  ·rename_i k t m α d enc l hl
   cases he
   obtain ⟨p,n,cap,hB,hrow⟩:=hb.row' (M:=memL Lin) (mem_of_lookup hl)
   have hv':IsRow v p n cap:=by
    cases hv with
    | row _ p' n' cap' hB'=>rw [hB] at hB'; cases hB'; exact .inl rfl
    | rowNil _ q hB' =>
     rw [hB] at hB'
     simp only [Option.some.injEq,Ref.row.injEq] at hB'
     exact .inr ⟨hB'.1,hB'.2.1,hB'.2.2,q,rfl⟩
   exact row_recs hrow hv' hg fun g k h=>h
  ·cases he
 refine (h.2 (fun g _=>g < w1.w.heap.size) w1.w args hb.shp (fun g k h=>h) (((hr.grow hg).sub hsub).bare hno)).mono ?_
 rintro e w' ⟨v,rfl,hrep,hbel⟩
 obtain ⟨h1,h2⟩:=hb.callee hbel
 exact ⟨v,_,B,rfl,hrep.plain hp,h1⟩
def vacCell (j k:Nat) (ds:List D):List D:=match ds[j]? with | some (.val (.slice none 0 0))=>ds.set j (.row k) | _=>ds
def vacL (b j k:Nat) (L:Boxes):Boxes:=L.map fun x=>bif x.1 == b then (x.1,x.2.1,vacCell j k x.2.2) else x
theorem RepL.setAt {F:Fz} {w:World} {B:Env}:∀ {ds:List D} {vs:List Value} {j:Nat} {d d':D},RepL F w B ds vs → ds[j]? = some d → (∀ v,Rep F w B d v → Rep F w B d' v) → RepL F w B (ds.set j d') vs
 | [],_,j,d,d',_,h,_=>by simp at h
 | x :: ds,_,0,d,d',.cons _ v _ vs hr hrs,h,hd=>by
  simp only [List.getElem?_cons_zero,Option.some.injEq] at h
  subst h
  exact .cons d' v ds vs (hd v hr) hrs
 | x :: ds,_,j + 1,d,d',.cons _ v _ vs hr hrs,h,hd=>by
  simp only [List.getElem?_cons_succ] at h
  exact .cons x v _ vs hr (RepL.setAt hrs h hd)
theorem set_flat:∀ {ds:List D} {j:Nat} {d:D},ds.all D.flat = true → d.flat = true → (ds.set j d).all D.flat = true
 | [],_,_,_,_=>rfl
 | x :: ds,0,d,h,hd=>by
  simp only [List.all_cons,Bool.and_eq_true] at h
  simp only [List.set_cons_zero,List.all_cons,Bool.and_eq_true]
  exact ⟨hd,h.2⟩
 | x :: ds,j + 1,d,h,hd=>by
  simp only [List.all_cons,Bool.and_eq_true] at h
  simp only [List.set_cons_succ,List.all_cons,Bool.and_eq_true]
  exact ⟨h.1,set_flat h.2 hd⟩
theorem St.vacantB (b j k e:Nat) {α:Type} {d:α} {enc:α → List D} (hg:GoodR (.recs d enc [])) (hlt:k < 1000000) (hf:freshKey k K L = true) {L':Boxes} (hv:vacL b j k L = L'):∀ a w,St nt F0 w0 K L a w → St nt F0 w0 K ((k,e,[.rowc false d enc []]) :: L') a w:=by
 rintro a w ⟨B,F,hb,hd,hs,hK⟩
 subst hv
 simp only [freshKey,Bool.and_eq_true] at hf
 have hfK:∀ x ∈ K,D.names k x.2 = false:=fun x hx=>by simpa using List.all_eq_true.1 hf.1 x hx
 have hfL:∀ x ∈ L,x.1 ≠ k ∧ D.namess k x.2.2 = false:=fun x hx=>by simpa using List.all_eq_true.1 hf.2 x hx
 have hB':setB B k (.row none 0 0) k = some (.row none 0 0):=setB_self _ _ _
 have hbase:=hb.newKey (t:=k) (ty:=e) (ds:=[.rowc false d enc []]) (F':=F) (w':=w) (B':=setB B k (.row none 0 0)) (M':=memL L) (Grow.refl _ _)
  (.row false d enc [] none 0 0 hB' ⟨rfl,hg.1,hg.2,[],.nil,⟨by simp,.inl ⟨rfl,rfl,rfl⟩⟩,fun b hb=>by cases hb⟩) (fun b hbk=>by rw [blkOf_row hB'] at hbk; cases hbk)
  (fun j t' ds hm=>⟨hm,(hfL _ hm).1,setB_ne _ _ _ _ (hfL _ hm).1,fun F w vs hr=>hr.rebox k (setB_ne _ _ _) (hfL _ hm).2⟩) (fun b _=>⟨rfl,fun _ h=>h⟩) hb.frz (fun g j h=>.inl h) (BelowS.refl _ _ _) (fun q hq=>setB_ne _ _ _ _ (by unfold LIM at hq; omega))
 have hmem:∀ q t es,memL ((k,e,[D.rowc false d enc []]) :: vacL b j k L) q t es → ∃ ds,memBox k e [.rowc false d enc []] (memL L) q t ds ∧ (es = ds ∨ (ds[j]? = some (.val (.slice none 0 0)) ∧ es = ds.set j (.row k))):=by
  intro q t es hm
  rcases List.mem_cons.1 hm with hm | hm
  ·cases hm; exact ⟨_,.inl ⟨rfl,rfl,rfl⟩,.inl rfl⟩
  ·obtain ⟨x,hx,he⟩:=List.mem_map.1 hm
   obtain ⟨q',t',ds⟩:=x
   cases hc:q' == b with
   | false=>simp only [hc,cond_false] at he; cases he; exact ⟨_,.inr hx,.inl rfl⟩
   | true =>
    simp only [hc,cond_true] at he
    cases he
    refine ⟨ds,.inr hx,?_⟩
    unfold vacCell
    split
    ·rename_i hcell; exact .inr ⟨hcell,rfl⟩
    ·exact .inl rfl
 refine ⟨setB B k (.row none 0 0),F,⟨fun q t es hm=>?_,fun q t es c hm hbk=>?_,fun i i' c hi hi'=>hbase.inj i i' c ?_ ?_,hbase.frz,hbase.more,hbase.grow,hbase.below,hbase.env⟩,hd,hs,fun x hx=>?_⟩
 ·obtain ⟨ds,h1,h2⟩:=hmem _ _ _ hm
  have hh:=hbase.boxes _ _ _ h1
  rcases h2 with rfl | ⟨hcell,rfl⟩
  ·exact hh
  ·cases hh with
   | box _ b vs h3 h4 h5 h6 h7=>exact .box _ b vs h3 (h4.setAt hcell fun v hv=>by cases hv; exact .row k none 0 0 hB') (set_flat h5 rfl) h6 h7
   | row m d enc l p n cap h3 h4 =>
    cases j with
    | zero=>simp at hcell
    | succ j=>simp at hcell
   | map kk ag d enc l b h3 h4 =>
    cases j with
    | zero=>simp at hcell
    | succ j=>simp at hcell
   | obj b o S h3 h4 =>
    cases j with
    | zero=>simp at hcell
    | succ j=>simp at hcell
 ·obtain ⟨ds,h1,_⟩:=hmem _ _ _ hm
  exact hbase.new _ _ _ _ h1 hbk
 ·obtain ⟨t,es,hm⟩:=hi
  obtain ⟨ds,h1,_⟩:=hmem _ _ _ hm
  exact ⟨_,_,h1⟩
 ·obtain ⟨t,es,hm⟩:=hi'
  obtain ⟨ds,h1,_⟩:=hmem _ _ _ hm
  exact ⟨_,_,h1⟩
 ·obtain ⟨v,h1,h2⟩:=hK x hx
  exact ⟨v,h1,h2.rebox k (setB_ne _ _ _) (hfK x hx)⟩
end
end Go.Proofs.YtaecmkldkljioaaGreat.RX
