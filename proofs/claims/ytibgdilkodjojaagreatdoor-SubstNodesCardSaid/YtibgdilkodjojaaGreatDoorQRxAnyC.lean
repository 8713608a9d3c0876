import Derived.Test.YtibgdilkodjojaaGreatDoorQRxAnyB
set_option linter.all false
namespace Go.Proofs.YtibgdilkodjojaaGreatDoor.RX
open Go.RowKit
section
variable {P:Program} {F0:Fz} {w0:Pt P} {B:Env} {F:Fz} {w:World} {a:Act} {Q:Exit → Act → World → Prop} {Γ:Nat → Option TI} {nt:Nat} {ops:List Oper} {L0:Boxes} {orc:List (Nat × D)} {K:List (Nat × D)} {st:Nat → DS}
def unset (B:Env):List Nat → Env
 | []=>B
 | k :: ks=>fun i=>if i = k then none else unset B ks i
theorem unset_mem {B:Env}:∀ {ks:List Nat} {k:Nat},k ∈ ks → unset B ks k = none
 | [],k,h=>by simp at h
 | k' :: ks,k,h=>by
  unfold unset
  split
  ·rfl
  ·rename_i hne
   exact unset_mem ((List.mem_cons.1 h).resolve_left hne)
theorem unset_not {B:Env}:∀ {ks:List Nat} {k:Nat},k ∉ ks → unset B ks k = B k
 | [],k,h=>rfl
 | k' :: ks,k,h=>by
  unfold unset
  rw [if_neg (fun e=>h (by rw [e]; exact List.mem_cons_self))]
  exact unset_not fun h'=>h (List.mem_cons_of_mem _ h')
theorem Rep.unset {B:Env} {d:D} {v:Value} (h:Rep F w B d v):∀ {ks:List Nat},(∀ k ∈ ks,D.names k d = false) → Rep F w (unset B ks) d v
 | [],_=>h
 | k :: ks,hn=>by
  have:=Rep.unset h (ks:=ks) fun j hj=>hn j (List.mem_cons_of_mem _ hj)
  exact this.rebox k (fun i hi=>by simp [RX.unset,hi]) (hn k List.mem_cons_self)
theorem RepL.unset {B:Env} {d:List D} {v:List Value} (h:RepL F w B d v):∀ {ks:List Nat},(∀ k ∈ ks,D.namess k d = false) → RepL F w (RX.unset B ks) d v
 | [],_=>h
 | k :: ks,hn=>by
  have:=RepL.unset h (ks:=ks) fun j hj=>hn j (List.mem_cons_of_mem _ hj)
  exact this.rebox k (fun i hi=>by simp [RX.unset,hi]) (hn k List.mem_cons_self)
def keysD (s:DS):List Nat:=s.A.map (·.2.1) ++ (match s.N with | some n=>[n.t] | none=>[])
theorem keys_lt (ht:Trace (CX P) Γ nt orc ops L0 K st):∀ k ∈ keysD (st ops.length),k < 1000000:=by
 intro k hk
 rcases List.mem_append.1 hk with hk | hk
 ·obtain ⟨x,hx,rfl⟩:=List.mem_map.1 hk
  have hl:x.1 < ops.length:=(ht.good ops.length (Nat.le_refl _)).A x hx
  obtain ⟨hx1,hx2⟩:=A_at ht hl hx rfl
  obtain ⟨g,hg,hs⟩:=ht.inv (List.getElem?_eq_getElem hl)
  cases hs with
  | box ty cells t hg0 hdt htn hfl hK0 hL0 hA0 he hbx hs =>
   rw [hs] at hx1
   have hxe:=(List.mem_cons.1 hx1).resolve_right hx2
   rw [hxe]; exact htn.2
  | pick c a b t tc e bc ba bb hop hd hc he hle hsrc ht hec hea heb hs=>rw [hs] at hx1; exact absurd hx1 hx2
  | val d cs t hd ht he hbx hs=>rw [hs] at hx1; exact absurd hx1 hx2
  | call f args r t hd ht hr hna he hbx hs=>rw [hs] at hx1; exact absurd hx1 hx2
  | store k off cells hg0 hdt hfl hR0 hbk he hbx hs=>rw [hs] at hx1; exact absurd hx1 hx2
  | fresh e m spec cs r t hd ht he hbx hs=>rw [hs] at hx1; exact absurd hx1 hx2
  | known spec r t hd ht he hbx hs=>rw [hs] at hx1; exact absurd hx1 hx2
  | app e m k spec cs d enc l t hg hd ht hNn hQ hK hL hA he hbx hs=>rw [hs] at hx1; exact absurd hx1 hx2
 ·cases hn:(st ops.length).N with
  | none=>rw [hn] at hk; simp at hk
  | some n =>
   rw [hn] at hk
   obtain rfl:=List.mem_singleton.1 hk
   obtain ⟨hlt,h1,h2⟩:=N_at ht hn
   obtain ⟨g,hg,hs⟩:=ht.inv (List.getElem?_eq_getElem hlt)
   cases hs with
   | app e m k' spec cs d enc l t hg hd htn hNn hQ hK hL hA he hbx hs =>
    rw [hs] at h1
    have h1:=Option.some.inj h1
    rw [← h1]; exact htn.2
   | box ty cells t hg hd ht hfl hK hL hA he hbx hs=>rw [hs] at h1; simp only at h1; rw [h2] at h1; cases h1
   | store k' off cells hg hd hfl hR hbk he hbx hs=>rw [hs] at h1; simp only at h1; rw [h2] at h1; cases h1
   | pick c a b t tc e bc ba bb hop hd hc he hle hsrc ht hec hea heb hs=>rw [hs] at h1; simp only at h1; rw [h2] at h1; cases h1
   | val d cs t hd ht he hbx hs=>rw [hs] at h1; simp only at h1; rw [h2] at h1; cases h1
   | call f args r t hd ht hr hna he hbx hs=>rw [hs] at h1; simp only at h1; rw [h2] at h1; cases h1
   | fresh e m spec cs r t hd ht he hbx hs=>rw [hs] at h1; simp only at h1; rw [h2] at h1; cases h1
   | known spec r t hd ht he hbx hs=>rw [hs] at h1; simp only at h1; rw [h2] at h1; cases h1
theorem startD (ht:Trace (CX P) Γ nt orc ops L0 K st) (hb:Base F0 w0 B F (memL L0) w) (hd:a.defers = w0.defs) (hs:a.tmps.size = nt) (hK:∀ x ∈ K,∃ v,a.tmps[x.1]? = some v ∧ Rep F w B x.2 v) :
  InvD nt ops L0 K (st ops.length) (fun _=>false) F0 w0 (unset B (keysD (st ops.length))) F a w:=by
 have hboxes:∀ x ∈ (st ops.length).A,(∀ y ∈ K,D.names x.2.1 y.2 = false) ∧ (∀ y ∈ L0,y.1 ≠ x.2.1 ∧ D.namess x.2.1 y.2.2 = false):=by
  intro x hx
  have hl:x.1 < ops.length:=(ht.good ops.length (Nat.le_refl _)).A x hx
  obtain ⟨hx1,hx2⟩:=A_at ht hl hx rfl
  obtain ⟨g,hg,hstep⟩:=ht.inv (List.getElem?_eq_getElem hl)
  cases hstep with
  | box ty cells t hg0 hdt htn hfl hK0 hL0 hA0 he hbx hs =>
   rw [hs] at hx1
   have hxe:=(List.mem_cons.1 hx1).resolve_right hx2
   have hxt:x.2.1 = t:=by rw [hxe]
   rw [hxt]
   refine ⟨fun y hy=>?_,fun y hy=>?_⟩
   ·obtain ⟨⟨K1,hK1,_⟩,_⟩:=ht.ext (Nat.zero_le x.1) (Nat.le_of_lt hl)
    have hm:(⟨y.1,0,[],y.2⟩:Ent) ∈ (st x.1).K:=by
     rw [hK1,ht.zero]
     exact List.mem_append_right _ (List.mem_map.2 ⟨y,hy,rfl⟩)
    have:=List.all_eq_true.1 hK0 _ hm
    simpa using this
   ·have:=List.all_eq_true.1 hL0 y hy
    simpa using this
  | pick c a b t tc e bc ba bb hop hd hc he hle hsrc ht hec hea heb hs=>rw [hs] at hx1; exact absurd hx1 hx2
  | val d cs t hd ht he hbx hs=>rw [hs] at hx1; exact absurd hx1 hx2
  | call f args r t hd ht hr hna he hbx hs=>rw [hs] at hx1; exact absurd hx1 hx2
  | store k off cells hg hd hfl hR hbk he hbx hs=>rw [hs] at hx1; exact absurd hx1 hx2
  | fresh e m spec cs r t hd ht he hbx hs=>rw [hs] at hx1; exact absurd hx1 hx2
  | known spec r t hd ht he hbx hs=>rw [hs] at hx1; exact absurd hx1 hx2
  | app e m k spec cs d enc l t hg hd ht hNn hQ hK hL hA he hbx hs=>rw [hs] at hx1; exact absurd hx1 hx2
 have hkeys:∀ k ∈ keysD (st ops.length),(∀ y ∈ K,D.names k y.2 = false) ∧ (∀ y ∈ L0,y.1 ≠ k ∧ D.namess k y.2.2 = false):=by
  intro k hk
  rcases List.mem_append.1 hk with hk | hk
  ·obtain ⟨x,hx,rfl⟩:=List.mem_map.1 hk
   exact hboxes x hx
  ·cases hn:(st ops.length).N with
   | none=>rw [hn] at hk; simp at hk
   | some n =>
    rw [hn] at hk
    obtain rfl:=List.mem_singleton.1 hk
    exact (N_dst ht hn).2
 have hmem:∀ k t ds,memS L0 (st ops.length).A (st ops.length).T (st ops.length).N (fun _=>false) k t ds → (k,t,ds) ∈ L0:=by
  rintro k t ds (⟨c0,h,rfl⟩ | ⟨h,_,_⟩ | ⟨n,_,h,_⟩)
  ·rcases h with ⟨h,_⟩ | ⟨i,hi,_⟩
   ·have hf:((st ops.length).T.filter fun _=>false) = []:=by simp
    show (k,t,applyT k c0 ((st ops.length).T.filter fun _=>false)) ∈ L0
    rw [hf]; exact h
   ·cases hi
  ·exact h
  ·cases h
 have hB:∀ k t ds,(k,t,ds) ∈ L0 → unset B (keysD (st ops.length)) k = B k:=fun k t ds h=>unset_not fun hk=>((hkeys k hk).2 _ h).1 rfl
 refine ⟨⟨fun k t ds h=>?_,fun k t ds b h hbk=>?_,fun i j b hi hj hBi hBj=>?_,hb.frz,hb.more,hb.grow,hb.below,fun k b h=>?_⟩,hd,hs,fun x hx _=>?_,(fun e he j hj hS=>by cases hS),(fun x hx _=>⟨unset_mem (List.mem_append_left _ (List.mem_map.2 ⟨x,hx,rfl⟩)),fun _ _ _=>rfl⟩),(fun n hn _=>unset_mem (List.mem_append_right _ (by rw [hn]; exact List.mem_singleton.2 rfl))),(fun k o hk=>by cases hk)⟩
 ·have h':=hmem _ _ _ h
  have hh:=hb.boxes _ _ _ h'
  cases hh with
  | box _ b vs h1 h2 h3 h4 h5=>exact .box _ b vs (by rw [hB _ _ _ h']; exact h1) (h2.unset fun k hk=>((hkeys k hk).2 _ h').2) h3 h4 h5
  | row m d enc l p n cap h1 h2=>exact .row m d enc l p n cap (by rw [hB _ _ _ h']; exact h1) h2
  | map kk ag d enc l b h1 h2=>exact .map kk ag d enc l b (by rw [hB _ _ _ h']; exact h1) h2
  | obj b o S h1 h2 h3 h4 h5=>exact .obj b o S (by rw [hB _ _ _ h']; exact h1) h2 h3 h4 h5
 ·have h':=hmem _ _ _ h
  rw [blkOf_ne (hB _ _ _ h')] at hbk
  exact hb.new _ _ _ _ h' hbk
 ·obtain ⟨t1,d1,h1⟩:=hi; obtain ⟨t2,d2,h2⟩:=hj
  rw [blkOf_ne (hB _ _ _ (hmem _ _ _ h1))] at hBi
  rw [blkOf_ne (hB _ _ _ (hmem _ _ _ h2))] at hBj
  exact hb.inj i j b ⟨_,_,hmem _ _ _ h1⟩ ⟨_,_,hmem _ _ _ h2⟩ hBi hBj
 ·rw [unset_not fun hk=>?_]
  ·exact hb.env k b h
  ·have:=keys_lt ht k hk
   have:=w0.low k (by rw [h]; exact fun e=>by cases e)
   unfold LIM at this
   omega
 ·obtain ⟨v,h1,h2⟩:=hK x hx
  exact ⟨v,h1,h2.unset fun k hk=>(hkeys k hk).1 x hx⟩
theorem all_listed (he:edgesOK ops = true) {listed:Array Bool} (hr:Region.ready .any ops.toArray listed = []) (hsz:listed.size = ops.length):∀ j,j < ops.length → listed.getD j false = true:=by
 intro j
 induction j using Nat.strongRecOn with
 | _ j ih =>
  intro hj
  cases hl:listed.getD j false with
  | true=>rfl
  | false =>
   exfalso
   have ho:=List.getElem?_eq_getElem hj
   have:j ∈ Region.ready .any ops.toArray listed:=by
    rw [mem_ready]
    refine ⟨?_,ops[j],by rw [List.getElem?_toArray]; exact ho,fun e hem hb=>?_⟩
    ·have hj':j < listed.size:=by omega
     simp only [Array.getD_eq_getD_getElem?,Array.getElem?_eq_getElem hj',Option.getD_some] at hl ⊢
     exact hl
    ·have hon:e.on ∈ onL ops[j]:=by
      unfold onL
      rw [List.mem_filterMap]
      exact ⟨e,by simpa using hem,by rw [hb]; rfl⟩
     have hz:(ops[j],j) ∈ ops.zipIdx:=List.mem_zipIdx_iff_getElem?.2 ho
     have h1:=List.all_eq_true.1 he _ hz
     have h2:=List.all_eq_true.1 h1 e.on hon
     have h3:e.on < j:=of_decide_eq_true h2
     exact ih e.on h3 (by omega)
   rw [hr] at this
   simp at this
def left (n:Nat) (listed:Array Bool):Nat:=((List.range n).filter fun j=>!(listed.getD j false)).length
theorem left_set {n i:Nat} {listed:Array Bool} (hi:i < n) (hsz:listed.size = n) (h:listed.getD i false = false):left n (listed.setIfInBounds i true) < left n listed:=by
 unfold left
 have hsub:∀ (l:List Nat),i ∈ l → ((l.filter fun j=>!((listed.setIfInBounds i true).getD j false)).length < (l.filter fun j=>!(listed.getD j false)).length):=by
  intro l
  have hle:∀ (l:List Nat),(l.filter fun j=>!((listed.setIfInBounds i true).getD j false)).length ≤ (l.filter fun j=>!(listed.getD j false)).length:=by
   intro l
   induction l with
   | nil=>simp
   | cons x l ih =>
    simp only [List.filter_cons]
    by_cases hx:x = i
    ·subst hx
     have:(listed.setIfInBounds x true).getD x false = true:=by simp [Array.getD_eq_getD_getElem?,hsz,hi]
     simp only [this,h,Bool.not_true,Bool.not_false,if_true,if_false,Bool.false_eq_true,List.length_cons]
     omega
    ·rw [getD_set_ne false (fun e=>hx e.symm)]
     split <;> (try simp only [List.length_cons]) <;> omega
  induction l with
  | nil=>intro h; simp at h
  | cons x l ih =>
   intro hm
   simp only [List.filter_cons]
   by_cases hx:x = i
   ·subst hx
    have:(listed.setIfInBounds x true).getD x false = true:=by simp [Array.getD_eq_getD_getElem?,hsz,hi]
    simp only [this,h,Bool.not_true,Bool.not_false,if_true,if_false,Bool.false_eq_true,List.length_cons]
    have:=hle l
    omega
   ·rw [getD_set_ne false (fun e=>hx e.symm)]
    have:=ih ((List.mem_cons.1 hm).resolve_left (fun e=>hx e.symm))
    split <;> (try simp only [List.length_cons]) <;> omega
 exact hsub _ (List.mem_range.2 hi)
theorem any_sound (hΓ:ΓOK P Γ) (hd:dstsOK ops = true) (hfl0:(L0.all fun x=>isRowc x.2.2 || x.2.2.all D.flat) = true) (he:edgesOK ops = true) (ht:Trace (CX P) Γ nt orc ops L0 K st) (hobl:∀ p ∈ (st ops.length).obl,p)
  (hQ:∀ B F a w (S:Nat → Bool),(∀ j,j < ops.length → S j = true) → InvD nt ops L0 K (st ops.length) S F0 w0 B F a w → Q .normal a w) :
  ∀ (fuel:Nat) (listed:Array Bool) (B:Env) (F:Fz) (a:Act) (w:World),listed.size = ops.length → left ops.length listed ≤ fuel → InvD nt ops L0 K (st ops.length) (fun j=>listed.getD j false) F0 w0 B F a w →
   wpAny P .any ops.toArray Q fuel listed a w:=by
 intro fuel
 induction fuel with
 | zero =>
  intro listed B F a w hsz hle hi
  have hall:∀ j,j < ops.length → listed.getD j false = true:=by
   intro j hj
   cases hl:listed.getD j false with
   | true=>rfl
   | false =>
    have:j ∈ (List.range ops.length).filter fun j=>!(listed.getD j false):=List.mem_filter.2 ⟨List.mem_range.2 hj,by rw [hl]; rfl⟩
    have h0:left ops.length listed = 0:=by omega
    unfold left at h0
    rw [List.length_eq_zero_iff.1 h0] at this
    simp at this
  refine ⟨?_,hQ B F a w _ hall hi⟩
  apply List.eq_nil_iff_forall_not_mem.2
  intro j hj
  obtain ⟨h1,o,h2,_⟩:=mem_ready.1 hj
  rw [List.getElem?_toArray] at h2
  have hlt:=(List.getElem?_eq_some_iff.1 h2).1
  have h3:=hall j hlt
  have hj':j < listed.size:=by omega
  simp only [Array.getD_eq_getD_getElem?,Array.getElem?_eq_getElem hj',Option.getD_some] at h1 h3
  rw [h3] at h1; cases h1
 | succ fuel ih =>
  intro listed B F a w hsz hle hi
  refine ⟨fun hr=>hQ B F a w _ (all_listed he hr hsz) hi,fun i him=>?_⟩
  obtain ⟨h1,o,h2,h3⟩:=mem_ready.1 him
  rw [List.getElem?_toArray] at h2
  have hlt:=(List.getElem?_eq_some_iff.1 h2).1
  have hj':i < listed.size:=by omega
  have hfalse:listed.getD i false = false:=by
   simp only [Array.getD_eq_getD_getElem?,Array.getElem?_eq_getElem hj',Option.getD_some] at h1 ⊢
   exact h1
  have hon:∀ j ∈ onL o,listed.getD j false = true:=by
   intro j hj
   unfold onL at hj
   obtain ⟨e,he1,he2⟩:=List.mem_filterMap.1 hj
   split at he2
   ·rename_i hb
    cases he2
    exact h3 e (by simpa using he1) hb
   ·cases he2
  have hset:(fun j=>(listed.setIfInBounds i true).getD j false) = setS (fun j=>listed.getD j false) i:=by
   funext j
   by_cases hji:j = i
   ·subst hji
    simp [setS,Array.getD_eq_getD_getElem?,hj']
   ·rw [getD_set_ne false (fun e=>hji e.symm)]
    simp [setS,hji]
  have hlt':=left_set hlt hsz hfalse
  exact step_any hΓ hd hfl0 ht hobl hi h2 hfalse hon fun B' F' a' w' hi'=>ih _ B' F' a' w' (by simp [hsz]) (by omega) (by rw [hset]; exact hi')
theorem keepKD_mem {K0:List Ent}:∀ {ts:List Nat} {r:List (Nat × D)},keepKD ops K0 ts = some r → ∀ x ∈ r,∃ e ∈ K0,e.slot = x.1 ∧ e.d = x.2 ∧ e.cnd = [] ∧ (e.src ≠ 0 ∨ ∀ o ∈ ops,o.dst ≠ some x.1)
 | [],r,h,x,hx=>by cases h; simp at hx
 | t :: ts,r,h,x,hx=>by
  unfold keepKD at h
  split at h
  ·rename_i e r' he hr
   split at h
   ·rename_i hc
    cases h
    rcases List.mem_cons.1 hx with rfl | hx
    ·obtain ⟨h1,h2⟩:=find_mem he
     refine ⟨e,h1,h2,rfl,by simpa using hc.1,hc.2.imp id fun h o ho=>?_⟩
     have:=List.all_eq_true.1 h o ho
     simpa using this
    ·exact keepKD_mem hr x hx
   ·cases h
  ·cases h
theorem Wp.regionD (hm:P.follows .mixedOrders = true) (hΓ:ΓOK P Γ) {id:Nat} {l:List Oper} {L L':Boxes} {K':List (Nat × D)} (orc:List (Nat × D)) (kk kl:List Nat) {ob:List Prop} (h:evRegionD (CX P) Γ nt orc l L K kk kl = some (K',L',ob)) (hob:AllP ob) (hn:To nt F0 w0 K' L' .normal Q) :
  Wp P nt F0 w0 K L (.region id l.toArray true) Q:=by
 rintro a w ⟨B,F,hb,hd,hs,hK⟩
 unfold evRegionD at h
 split at h
 ·rename_i hok
  simp only [Bool.and_eq_true] at hok
  obtain ⟨⟨hdst,hedg⟩,hfl0⟩:=hok
  split at h
  ·rename_i s hs'
   split at h
   ·rename_i K1 L1 hk hl
    cases h
    obtain ⟨st,h0,h1,h2⟩:=trace_of l 0 hs'
    have ht:Trace (CX P) Γ nt orc l L K st:=⟨h0,fun i o ho=>by have:=h2 i o ho; simpa using this⟩
    rw [Nat.zero_add] at h1
    have hi:=startD ht hb.draw hd hs (fun x hx=>by
     obtain ⟨v,h3,h4⟩:=hK x hx
     have hgr:Grow F F w w.drew:=⟨fun _ _ h=>h,fun _ _ _=>rfl⟩
     exact ⟨v,h3,h4.grow hgr⟩)
    refine region_any_in hm (by simpa using evOpsD_nd _ _ hs') ?_
    have hw:({ w with drawn:=w.drawn + 1 }:World) = w.drew:=rfl
    rw [hw]
    refine any_sound (F0:=F0) (w0:=w0) (Q:=nrm Q) hΓ hdst hfl0 hedg ht (by rw [h1]; exact AllP.mem hob) (fun B' F' a w S hS hi=>?_) _ _ (unset B (keysD (st l.length))) F a w.drew (by simp) ?_ ?_
    ·refine hn a w ⟨B',F',hi.base.sub fun k t ds h=>?_,hi.defers,hi.size,fun x hx=>?_⟩
     ·have hv:=keepL_mem hl _ h
      rw [← h1] at hv
      rcases List.mem_append.1 hv with hv | hv
      ·obtain ⟨c0,hc,rfl⟩:=view_mem hv
       refine .inl ⟨c0,hc.imp (fun h=>h) fun ⟨j,hj⟩=>⟨j,hS j ((ht.good _ (Nat.le_refl _)).A _ hj),hj⟩,?_⟩
       congr 1
       symm
       rw [List.filter_eq_self]
       intro x hx
       exact hS _ ((ht.good _ (Nat.le_refl _)).T x hx)
      ·rcases List.mem_append.1 hv with hv | hv
       ·obtain ⟨h7,h8⟩:=List.mem_filter.1 hv
        simp only [Bool.and_eq_true,Bool.not_eq_true'] at h8
        refine .inr (.inl ⟨h7,h8.1,fun n hn hk=>?_⟩)
        have h9:=h8.2
        rw [hn] at h9
        simp [taken,hk] at h9
       ·split at hv
        ·rename_i n hn
         rw [List.mem_singleton] at hv
         cases hv
         exact .inr (.inr ⟨n,hn,hS _ ((ht.good _ (Nat.le_refl _)).N n hn),rfl,rfl,rfl⟩)
        ·simp at hv
     ·obtain ⟨e,he,h3,h4,h5,h6⟩:=keepKD_mem hk x hx
      rw [← h1] at he
      by_cases hsrc:e.src = 0
      ·rcases h6 with h6 | h6
       ·exact absurd hsrc h6
       ·obtain ⟨⟨K2,hK2,hK3⟩,_⟩:=ht.ext (Nat.zero_le _) (Nat.le_refl l.length)
        have hst:e ∈ (st 0).K:=by
         rw [hK2] at he
         rcases List.mem_append.1 he with h | h
         ·have:=hK3 e h; omega
         ·exact h
        rw [ht.zero] at hst
        obtain ⟨y,hy,rfl⟩:=List.mem_map.1 hst
        have hyx:y = x:=by
         obtain ⟨y1,y2⟩:=y; obtain ⟨x1,x2⟩:=x
         simp only at h3 h4; rw [h3,h4]
        subst hyx
        exact hi.old y hy fun k o hk ho=>h6 o (List.mem_of_getElem? ho)
      ·have hle:=(ht.good _ (Nat.le_refl _)).srcs e he
       have:=(hi.new e he (e.src - 1) (by omega) (hS _ (by omega))).1 (by rw [h5]; rfl)
       rw [h3,h4] at this
       exact this
    ·unfold left
     have:=List.length_filter_le (fun j=>!((Array.replicate l.toArray.size false).getD j false)) (List.range l.length)
     simp only [List.length_range] at this
     simpa using this
    ·have hfun:(fun j=>(Array.replicate l.toArray.size false).getD j false) = fun _=>false:=by
      funext j
      simp only [Array.getD_eq_getD_getElem?,Array.getElem?_replicate]
      split <;> rfl
     rw [hfun]; exact hi
   ·cases h
  ·cases h
 ·cases h
end
end Go.Proofs.YtibgdilkodjojaaGreatDoor.RX
