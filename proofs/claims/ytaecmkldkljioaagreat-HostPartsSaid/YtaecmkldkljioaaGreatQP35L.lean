import Derived.Test.YtaecmkldkljioaaGreatQP35K
set_option linter.all false
namespace Go.Proofs.YtaecmkldkljioaaGreat.M
open Go Go.Proofs.YtaecmkldkljioaaGreat.RX Go.Proofs.YtaecmkldkljioaaGreat.PL
set_option maxRecDepth 100000
theorem same_total {n:Nat} (hn:n = 1000000000) (l m:List S_host_Event) (h:l.length ≤ 1000000000 - 1):∃ b,ref35_Same n l m = some b:=by
 unfold ref35_Same
 by_cases hl:l.length = m.length
 ·rw [if_neg (by simp; omega)]
  have:=scanL (L:=ref35_Same_l1 n l m) (l.zip m) (fun x=>if (!(x.1.f_At == x.2.f_At && (x.1.f_Kind == x.2.f_Kind && (x.1.f_Id == x.2.f_Id && x.1.f_What == x.2.f_What)))) = true then some false else none) 0 (by simp; omega)
   (fun k i hi _=>by
    have h1:i < l.length:=by simp at hi; omega
    have h2:i < m.length:=by omega
    rw [ref35_Same_l1,if_pos (lt_i h1),if_pos (in_i h1),if_pos (in_i h2),at_i h1,at_i h2,List.getElem_zip]
    simp only [lett]
    split <;> rfl)
   (fun k=>by rw [List.length_zip,ref35_Same_l1,← hl,Nat.min_self,nlt_n]; rfl) n 0 (by omega) (by omega) (by simp; omega)
  have this:ref35_Same_l1 n l m n 0 = _:=this
  rw [this]
  generalize List.findSome? _ _ = o
  cases o with
  | none=>exact ⟨true,rfl⟩
  | some r=>exact ⟨r,rfl⟩
 ·exact ⟨false,by rw [if_pos (by simp; omega)]⟩
theorem tickL_mono:∀ (a b:Nat) (v:Int) (acc:List S_host_Event) (p:PS) (r:List S_host_Event × PS),a ≤ b → tickL a v acc p = some r → tickL b v acc p = some r
 | 0,_,_,_,_,_,_,h=>by cases h
 | a + 1,b,v,acc,p,r,hab,h=>by
  obtain ⟨b,rfl⟩:∃ b',b = b' + 1:=⟨b - 1,by omega⟩
  rw [tickL] at h ⊢
  cases hf:firstP v p.bs with
  | none=>rw [hf] at h; exact h
  | some u=>rw [hf] at h; exact tickL_mono a b _ _ _ _ (by omega) h
theorem ticks' (n:Nat) (hn:n = 1000000000) {k:Nat} {p:PS} (hi:Inv k p) (v:Int) (hv0:0 ≤ v) (hv:v ≤ 2000000) (acc:List S_host_Event):∃ r,tickL n v acc p = some r ∧ Inv k r.2 ∧ r.1.length ≤ acc.length + 200000000:=by
 have h64:=hi.boxes
 have hm:=mu_le v hv0 p
 have:p.bs.length * (v + 1).toNat ≤ 64 * 3000000:=Nat.mul_le_mul h64 (by omega)
 obtain ⟨r,hr,hr2⟩:=tick_ends (k0:=k) v (by omega) 200000000 acc p hi (by omega)
 exact ⟨r,tickL_mono _ _ _ _ _ _ (by omega) hr,hr2,tickL_len _ _ _ _ _ hr⟩
theorem step35_gen (n:Nat) (hn:n = 1000000000) {k:Nat} {h g:PH} (hi:QInv k h) (gi:QInv k g) (hk:k ≤ 100) (d:S_law35_Deed) (hc:fewC d.f_Call = false) :
  ∃ h' W ok,law35_step__o0 n (toWH g) d h.toH = some (W,ok,h'.toH) ∧ QInv (k + 1) h':=by
 obtain ⟨f1,f2⟩:=fewC_few hc
 unfold law35_step__o0
 rw [if_pos (by decide)]
 generalize hkd:Int.tmod d.f_Kind 10 = kd
 unfold law35_step__o0_j1
 by_cases k5:kd = 5
 ·rw [if_pos (by simpa using k5)]
  have hcl:=clampP_in d.f_N
  have h0:=hi.now0
  have h1:=hi.nowk
  have g0:=gi.now0
  have g1:=gi.nowk
  obtain ⟨⟨ev,p⟩,ht,hp,hl⟩:=ticks' n hn hi.inv.st (h.now + clampP d.f_N) (by omega) (by omega) []
  obtain ⟨⟨ev2,p2⟩,ht2,hp2,hl2⟩:=ticks' n hn gi.inv.st (g.now + clampP d.f_N) (by omega) (by omega) []
  have hw:=wrap_now hi (by omega) d.f_N
  have hw2:=wrap_now gi (by omega) d.f_N
  simp only [List.length_nil] at hl hl2
  obtain ⟨b,hb⟩:=same_total hn ev ev2 (by omega)
  rw [TickR_eq n hn gi.inv d.f_N hw2 ht2,Option.bind_some,Tick_eq n hn hi.inv (by omega) d.f_N hw ht,Option.bind_some,Events_eq n ev (by omega) hn,Option.bind_some,hb]
  refine ⟨⟨p,h.plan,h.now + clampP d.f_N⟩,_,_,rfl,⟨hp.up,hi.inv.plan⟩,hi.plan.up (by omega),?_,?_⟩
  ·show 0 ≤ h.now + clampP d.f_N; omega
  ·show h.now + clampP d.f_N ≤ _; omega
 rw [if_neg (by simpa using k5)]
 by_cases k6:kd = 6
 ·rw [if_pos (by simpa using k6)]
  obtain ⟨h',ev,e1,e2,e3,e4,e5,e6⟩:=exit35_eq n d.f_N d.f_M hi.inv (by omega)
  obtain ⟨g',ev2,x1,x2,x3,x4,x5,x6⟩:=exit35_eq n d.f_N d.f_M gi.inv (by omega)
  obtain ⟨b,hb⟩:=same_total hn ev ev2 (by omega)
  rw [x2,Option.bind_some,e1,Option.bind_some,Events_eq n ev (by omega) hn,Option.bind_some,hb]
  exact ⟨h',_,_,rfl,hi.up e3 e4 e5⟩
 rw [if_neg (by simpa using k6)]
 have ej:law35_step__o0_j2 n kd (kd == 7) (toWH g) d ⟨⟨[],[],[],0⟩,⟨[],0⟩,0⟩ h.toH = some (decide (kd = 7 ∨ kd = 8)):=by
  unfold law35_step__o0_j2
  by_cases k7:kd = 7
  ·rw [if_pos (by simpa using k7)]; simp [k7]
  ·rw [if_neg (by simpa using k7)]
   congr 1
   rw [Bool.eq_iff_iff]; simp [k7]
 rw [ej,Option.bind_some]
 by_cases k78:kd = 7 ∨ kd = 8
 ·rw [if_pos (decide_eq_true k78),if_pos (by decide),hkd]
  obtain ⟨h',r,e1,e2,e3,e4,e5⟩:=sick_eq n d.f_N (kd == 7) hi.inv (by omega)
  obtain ⟨g',r2,x1,x2,x3,x4,x5⟩:=sick_eq n d.f_N (kd == 7) gi.inv (by omega)
  rw [x2,Option.bind_some,if_pos (by decide),e1]
  exact ⟨h',_,_,rfl,hi.up e3 e4 e5⟩
 rw [if_neg (by simpa using k78)]
 by_cases k9:kd = 9
 ·rw [if_pos (by simpa using k9)]
  unfold host_Host_Fault__o0 ref35_Fault
  have hp:=hi.inv.plan
  have gp:=gi.inv.plan
  rw [show (PH.toH h).f_plan = h.plan from rfl,show (toWH g).f_Plan = toPl g.plan from rfl,Add_eq n _ _ hp,Add34_eq n _ _ gp (by omega)]
  refine ⟨⟨h.st,addP h.plan ⟨d.f_N,d.f_M⟩,h.now⟩,_,_,rfl,⟨hi.inv.st.up,addP_len _ hp⟩,?_,hi.now0,?_⟩
  ·exact (hi.plan.add (by omega) _).up (by omega)
  ·have:=hi.nowk; show h.now ≤ _; omega
 ·rw [if_neg (by simpa using k9),Option.bind_some,Sum.elim_inl]
  dsimp only
  have hp:=hi.inv.plan
  have gp:=gi.inv.plan
  rw [Call_eq n _ hi.inv (by omega) f1 f2 (by omega),Option.bind_some]
  obtain ⟨g1,g2⟩:=Next34_eq n gi.plan (by omega) gp (by omega)
  obtain ⟨_,g3⟩:=Next34_eq n hi.plan (by omega) hp (by omega)
  have er:∃ z,ref35_Call n (toWH g) d.f_Call = some z:=by
   unfold ref35_Call
   rw [show (toWH g).f_Plan = toPl g.plan from rfl,g1,Option.bind_some]
   by_cases hf:(nextP g.plan).2 = true
   ·rw [if_pos hf]; exact ⟨_,rfl⟩
   ·rw [if_neg hf,show (toWH g).f_S = toW g.st from rfl,show (toWH g).f_Now = g.now from rfl,Do33_eq n _ _ gi.inv.st (by omega) f1 f2 (by omega),Option.bind_some]
    exact ⟨_,rfl⟩
  obtain ⟨z,hz⟩:=er
  rw [hz]
  refine ⟨(callP d.f_Call h).2.2,_,_,rfl,⟨?_,?_,?_,?_⟩⟩
  ·exact hi.inv.call _ f1 f2
  ·have:(callP d.f_Call h).2.2.plan = (nextP h.plan).1:=by unfold callP; split <;> rfl
   rw [this]; exact g3.up (by omega)
  ·have:(callP d.f_Call h).2.2.now = h.now:=by unfold callP; split <;> rfl
   rw [this]; exact hi.now0
  ·have:(callP d.f_Call h).2.2.now = h.now:=by unfold callP; split <;> rfl
   rw [this]; have:=hi.nowk; omega
abbrev g0:PH:=⟨⟨[],[],[],0⟩,⟨[],0⟩,0⟩
theorem g0_inv (k:Nat):QInv k g0 where
 inv:=⟨⟨.nil,fun b hb=>(by cases hb),by show (0:Int) ≤ 0; omega,by show (0:Int) ≤ k; omega,by simp,by simp,by simp,.nil,.nil,fun b hb=>(by cases hb),fun b hb=>(by cases hb),.nil,fun b hb=>(by cases hb),fun b hb=>(by cases hb),fun b hb=>(by cases hb)⟩,by simp⟩
 plan:=⟨fun g hg=>(by cases hg),by show (0:Int) ≤ 0 ∧ (0:Int) ≤ 100000 + 1000 * k; omega⟩
 now0:=by show (0:Int) ≤ 0; omega
 nowk:=by show (0:Int) ≤ 10000 * k; omega
theorem played_l1 (n:Nat) (hn:n = 1000000000) (v1:List S_law35_Deed) (hl:v1.length ≤ 60) (hf:∀ d ∈ v1,fewC d.f_Call = false):∀ (k i:Nat) (h:PH),QInv i h → i ≤ v1.length → v1.length - i < k → ∃ h',QInv v1.length h' ∧ law35_played_o_l1 n v1 (toWH g0) k (i:Int) h.toH = some h'.toH
 | 0,_,_,_,_,h=>by omega
 | k + 1,i,h,hp,h1,h2=>by
  rw [law35_played_o_l1]
  by_cases hi:i < v1.length
  ·obtain ⟨h',W,ok,e1,e2⟩:=step35_gen n hn hp (g0_inv i) (by omega) v1[i] (hf _ (List.getElem_mem hi))
   rw [if_pos (lt_i hi),if_pos (in_i hi),at_i hi,e1,Option.bind_some,wrap_s i (by omega)]
   exact played_l1 n hn v1 hl hf k (i + 1) h' e2 (by omega) (by omega)
  ·have:i = v1.length:=by omega
   subst this
   rw [nlt_n]
   exact ⟨h,hp,rfl⟩
theorem played_eq (n:Nat) (hn:n = 1000000000) (a0:List S_fault_Gap) (a1:List S_law35_Deed) (h0:a0.length ≤ 40) (hl:a1.length ≤ 60) (hf:∀ d ∈ a1,fewC d.f_Call = false):∃ h,QInv a1.length h ∧ law35_played_o n a0 a1 = some h.toH:=by
 have hN:=New_eq n a0 (by omega) (by omega)
 obtain ⟨h,e1,e2⟩:=played_l1 n hn a1 hl hf n 0 (h0P a0) (q0 n a0 h0 (by omega)) (by omega) (by omega)
 refine ⟨h,e1,?_⟩
 unfold law35_played_o
 rw [gaps_eq n a0 (by omega) (by omega),Option.bind_some,hN.1,Option.bind_some]
 have e2:law35_played_o_l1 n a1 (S_ref35_Host.mk (S_ref33_Store.mk [] [] [] 0) (S_ref34_Plan.mk [] 0) 0) n 0 (PH.toH (h0P a0)) = _:=e2
 rw [e2]; rfl
theorem stepF_ge {v:Int} {f u:S_life_Box} (h:¬ life_Next u < life_Next f):stepF v (some f) u = some f:=by
 unfold stepF
 simp [h]
theorem stepF_lt {v:Int} {f u:S_life_Box} (h0:0 ≤ life_Next u) (h1:life_Next u ≤ v) (h:life_Next u < life_Next f):stepF v (some f) u = some u:=by
 unfold stepF
 simp [h,h0,h1]
theorem stepF_two {v1 v2:Int} (hv:v1 ≤ v2):∀ (l:List S_life_Box) (s1 s2:Option S_life_Box),(s1 = s2 ∧ ∀ f,s1 = some f → life_Next f ≤ v1) ∨ (s1 = none ∧ ∃ f,s2 = some f ∧ v1 < life_Next f) →
  (l.foldl (stepF v1) s1 = l.foldl (stepF v2) s2) ∨ l.foldl (stepF v1) s1 = none
 | [],s1,s2,h=>by
  rcases h with ⟨h,_⟩ | ⟨h,_⟩
  ·exact .inl h
  ·exact .inr h
 | u :: l,s1,s2,h=>by
  rw [List.foldl_cons,List.foldl_cons]
  refine stepF_two hv l _ _ ?_
  by_cases e0:life_Next u < 0
  ·have n1:∀ v s,stepF v s u = s:=fun v s=>by
    unfold stepF
    rw [decide_eq_false (show ¬ life_Next u ≥ 0 by omega)]; rfl
   rw [n1,n1]; exact h
  by_cases e1:life_Next u ≤ v1
  ·have st:∀ v (s:Option S_life_Box),life_Next u ≤ v → stepF v s u = match s with | none=>some u | some f=>if life_Next u < life_Next f then some u else some f:=fun v s hvv=>by
    unfold stepF
    rw [decide_eq_true (show life_Next u ≥ 0 by omega),decide_eq_true hvv]
    cases s with
    | none=>rfl
    | some f =>
     by_cases c:life_Next u < life_Next f
     ·simp [c]
     ·simp [c]
   rw [st v1 s1 e1,st v2 s2 (by omega)]
   rcases h with ⟨h,h'⟩ | ⟨h,f,h',h''⟩
   ·subst h
    refine .inl ⟨rfl,?_⟩
    cases s1 with
    | none=>intro f hf; cases hf; exact e1
    | some f =>
     intro f' hf'
     dsimp only at hf'
     split at hf'
     ·cases hf'; exact e1
     ·cases hf'; exact h' _ rfl
   ·subst h; subst h'
    refine .inl ⟨?_,?_⟩
    ·dsimp only
     rw [if_pos (by omega)]
    ·intro f hf; cases hf; exact e1
  ·have n1:stepF v1 s1 u = s1:=by
    unfold stepF
    simp [e1]
   rw [n1]
   rcases h with ⟨h,h'⟩ | ⟨h,f,h',h''⟩
   ·subst h
    cases s1 with
    | none =>
     rcases stepF_or v2 none u with ⟨x,_⟩ | x
     ·rw [x]; exact .inr ⟨rfl,u,rfl,by omega⟩
     ·rw [x]; exact .inl ⟨rfl,h'⟩
    | some f =>
     have hf:=h' f rfl
     refine .inl ⟨?_,h'⟩
     exact (stepF_ge (show ¬ life_Next u < life_Next f by omega)).symm
   ·subst h; subst h'
    rcases stepF_or v2 (some f) u with ⟨x,_⟩ | x
    ·rw [x]; exact .inr ⟨rfl,u,rfl,by omega⟩
    ·rw [x]; exact .inr ⟨rfl,f,rfl,h''⟩
theorem first_two {v1 v2:Int} (hv:v1 ≤ v2) {bs:List S_life_Box} {b:S_life_Box} (h:firstP v1 bs = some b):firstP v2 bs = some b:=by
 unfold firstP at h ⊢
 rcases stepF_two hv bs none none (.inl ⟨rfl,fun f hf=>by cases hf⟩) with e | e
 ·rw [← e]; exact h
 ·rw [e] at h; cases h
theorem tick_two {v1 v2:Int} (hv:v1 ≤ v2) {b:S_life_Box} (h0:0 ≤ life_Next b) (h1:life_Next b ≤ v1):life_Tick b v1 = life_Tick b v2:=by
 have c:∀ v,v1 ≤ v → ¬ (bif (life_Next b) == (-1) then true else decide ((life_Next b) > v)) = true:=fun v h=>by simp; omega
 unfold life_Tick
 rw [if_neg (c v1 (Int.le_refl _)),if_neg (c v2 hv)]
theorem tickL_acc:∀ (k:Nat) (v:Int) (acc:List S_host_Event) (p:PS),tickL k v acc p = (tickL k v [] p).map fun r=>(acc ++ r.1,r.2)
 | 0,_,_,_=>rfl
 | k + 1,v,acc,p=>by
  rw [tickL,tickL]
  cases hf:firstP v p.bs with
  | none=>simp
  | some b =>
   dsimp only
   rw [tickL_acc k v (acc ++ evP b v),tickL_acc k v ([] ++ evP b v),Option.map_map]
   congr 1
   funext r
   simp
theorem tickL_two {v1 v2:Int} (hv:v1 ≤ v2):∀ (k K:Nat) (acc:List S_host_Event) (p:PS) (r r2:List S_host_Event × PS),tickL k v1 acc p = some r → tickL K v2 r.1 r.2 = some r2 → tickL (k + K) v2 acc p = some r2
 | 0,_,_,_,_,_,h,_=>by cases h
 | k + 1,K,acc,p,r,r2,h,h2=>by
  rw [tickL] at h
  cases hf:firstP v1 p.bs with
  | none =>
   rw [hf] at h; cases h
   exact tickL_mono _ _ _ _ _ _ (by omega) h2
  | some b =>
   rw [hf] at h
   obtain ⟨_,hb0,hb1⟩:=first_sound hf
   have ht:=tick_two hv hb0 hb1
   have he:evP b v1 = evP b v2:=by unfold evP; rw [ht]
   rw [show k + 1 + K = (k + K) + 1 by omega,tickL,first_two hv hf]
   dsimp only
   rw [← ht,← he]
   exact tickL_two hv k K _ _ _ _ h h2
def lexLe (a b:Int × Int):Prop:=a.1 < b.1 ∨ (a.1 = b.1 ∧ a.2 ≤ b.2)
theorem lexLe.trans {a b c:Int × Int} (h:lexLe a b) (h':lexLe b c):lexLe a c:=by
 unfold lexLe at *
 omega
abbrev keyB (b:S_life_Box):Int × Int:=(life_Next b,b.f_Id)
abbrev keyE (e:S_host_Event):Int × Int:=(e.f_At,e.f_Id)
theorem first_min {v:Int}:∀ (l:List S_life_Box) (s:Option S_life_Box) (b:S_life_Box),(l.map (·.f_Id)).Pairwise (· < ·) → (∀ f,s = some f → ∀ u ∈ l,f.f_Id < u.f_Id) → l.foldl (stepF v) s = some b →
  (∀ f,s = some f → lexLe (keyB b) (keyB f)) ∧ ∀ u ∈ l,0 ≤ life_Next u → life_Next u ≤ v → lexLe (keyB b) (keyB u)
 | [],s,b,_,_,h=>⟨fun f hf=>by
   have h:s = some b:=h
   rw [h] at hf; cases hf
   exact .inr ⟨rfl,Int.le_refl _⟩,fun u hu=>by cases hu⟩
 | u :: l,s,b,ha,hs,h=>by
  rw [List.foldl_cons] at h
  rw [List.map_cons,List.pairwise_cons] at ha
  have hul:∀ x ∈ l,u.f_Id < x.f_Id:=fun x hx=>ha.1 _ (List.mem_map_of_mem hx)
  by_cases hx:stepF v s u = some u
  ·rw [hx] at h
   obtain ⟨i1,i2⟩:=first_min l (some u) b ha.2 (fun f hf x hx=>by cases hf; exact hul x hx) h
   have hbu:=i1 u rfl
   refine ⟨fun f hf=>?_,fun x hx _ _=>?_⟩
   ·subst hf
    have:life_Next u < life_Next f ∨ u = f:=by
     by_cases hlt:life_Next u < life_Next f
     ·exact .inl hlt
     ·rw [stepF_ge hlt] at hx
      exact .inr (Option.some.inj hx).symm
    rcases this with h1 | h1
    ·exact hbu.trans (.inl h1)
    ·rw [← h1]; exact hbu
   ·rcases List.mem_cons.1 hx with rfl | hx
    ·exact hbu
    ·exact i2 x hx (by assumption) (by assumption)
  ·have hsu:stepF v s u = s:=by
    rcases stepF_or v s u with ⟨x,_⟩ | x
    ·exact absurd x hx
    ·exact x
   rw [hsu] at h
   obtain ⟨i1,i2⟩:=first_min l s b ha.2 (fun f hf x hx=>hs f hf x (List.mem_cons_of_mem _ hx)) h
   refine ⟨i1,fun x hxl h0 h1=>?_⟩
   rcases List.mem_cons.1 hxl with rfl | hxl
   ·cases s with
    | none =>
     exfalso; apply hx
     unfold stepF
     rw [decide_eq_true (show life_Next x ≥ 0 by omega),decide_eq_true h1]; rfl
    | some f =>
     have hff:=hs f rfl x List.mem_cons_self
     refine (i1 f rfl).trans ?_
     have:¬ life_Next x < life_Next f:=fun hlt=>hx (stepF_lt h0 h1 hlt)
     show life_Next f < life_Next x ∨ (life_Next f = life_Next x ∧ f.f_Id ≤ x.f_Id)
     omega
   ·exact i2 x hxl h0 h1
theorem evP_key (b:S_life_Box) (v:Int):∀ e ∈ evP b v,keyE e = keyB b:=by
 intro e he
 unfold evP at he
 split at he
 ·rw [List.mem_singleton.1 he]
 split at he
 ·rw [List.mem_singleton.1 he]
 ·cases he
theorem tick_sorted {k0:Nat} {v:Int} (hv:v ≤ 1000000000):∀ (k:Nat) (acc:List S_host_Event) (p:PS) (r:List S_host_Event × PS),Inv k0 p → acc.Pairwise (fun a b=>lexLe (keyE a) (keyE b)) → (∀ e ∈ acc,∀ u ∈ p.bs,0 ≤ life_Next u → life_Next u ≤ v → lexLe (keyE e) (keyB u)) →
  tickL k v acc p = some r → r.1.Pairwise (fun a b=>lexLe (keyE a) (keyE b))
 | 0,_,_,_,_,_,_,h=>by cases h
 | k + 1,acc,p,r,hp,hs,hq,h=>by
  rw [tickL] at h
  cases hf:firstP v p.bs with
  | none=>rw [hf] at h; cases h; exact hs
  | some b =>
   rw [hf] at h
   obtain ⟨hb,hb0,hb1⟩:=first_sound hf
   have hid:=tick_id b v
   have hmin:=(first_min p.bs none b hp.asc (fun f hf=>by cases hf) hf).2
   refine tick_sorted hv k _ _ r (hp.setB hb hid.1 hid.2) ?_ ?_ h
   ·rw [List.pairwise_append]
    refine ⟨hs,?_,fun e he x hx=>by rw [evP_key b v x hx]; exact hq e he b hb hb0 hb1⟩
    unfold evP
    repeat' split
    all_goals simp
   ·intro e he u hu h0 h1
    have hbu:lexLe (keyB b) (keyB u):=by
     rcases repl_mem kI _ _ _ hu with rfl | hu
     ·rcases tick_next b v hb0 hb1 hv with hn | hn
      ·omega
      ·exact .inl hn
     ·exact hmin u hu h0 h1
    rcases List.mem_append.1 he with he | he
    ·exact (hq e he b hb hb0 hb1).trans hbu
    ·rw [evP_key b v e he]; exact hbu
theorem l2_sorted (n:Nat) (l:List S_host_Event) (hl:l.length ≤ 1000000000) (hs:l.Pairwise (fun a b=>lexLe (keyE a) (keyE b))):∀ (k i:Nat),1 ≤ i → l.length - i < k → law35_HostParts_l2 n l k (i:Int) = some (.inl ())
 | 0,_,_,h=>by omega
 | k + 1,i,h1,h2=>by
  rw [law35_HostParts_l2]
  by_cases hi:i < l.length
  ·obtain ⟨j,rfl⟩:∃ j,i = j + 1:=⟨i - 1,by omega⟩
   have hj:j < l.length:=by omega
   have hw:IntKind.wrap .i64 (((j + 1:Nat):Int) - 1) = (j:Int):=by rw [show ((j + 1:Nat):Int) - 1 = (j:Int) by omega]; exact wrap_id _ (by omega) (by omega)
   rw [if_pos (lt_i hi),hw,if_pos (in_i hj),if_pos (in_i hi),if_pos (by rw [in_i hj]; simp),if_pos (by rw [in_i hi]; simp),if_pos (by rw [in_i hj]; simp),if_pos (by rw [in_i hi]; simp),at_i hj,at_i hi]
   have hp:=List.pairwise_iff_getElem.1 hs j (j + 1) hj hi (by omega)
   have hx:(bif decide (l[j].f_At > l[j + 1].f_At) then true else (bif l[j].f_At == l[j + 1].f_At then decide (l[j].f_Id > l[j + 1].f_Id) else false)) = false:=by
    have hp:l[j].f_At < l[j + 1].f_At ∨ (l[j].f_At = l[j + 1].f_At ∧ l[j].f_Id ≤ l[j + 1].f_Id):=hp
    rw [decide_eq_false (show ¬ l[j].f_At > l[j + 1].f_At by omega),cond_false]
    by_cases he:l[j].f_At = l[j + 1].f_At
    ·rw [decide_eq_false (show ¬ l[j].f_Id > l[j + 1].f_Id by omega)]; simp
    ·rw [beq_eq_false_iff_ne.2 he,cond_false]
   simp only [lett]
   rw [hx,if_neg (by decide),wrap_s _ (by omega)]
   exact l2_sorted n l hl hs k (j + 1 + 1) (by omega) (by omega)
  ·rw [if_neg (by simp; omega)]
theorem law35_HostParts_true (a0:List (S_fault_Gap)) (_:W_Lref34_Gap a0) (a1:List (S_law35_Deed)) (_:W_Llaw35_Deed a1) (a2:Int) (_:IntKind.min .i64 ≤ a2 ∧ a2 ≤ IntKind.max .i64) (a3:Int) (_:IntKind.min .i64 ≤ a3 ∧ a3 ≤ IntKind.max .i64):∃ n,law35_HostParts n a0 a1 a2 a3 = some true:=by
 obtain ⟨n,hn⟩:∃ n,n = 1000000000:=⟨_,rfl⟩
 refine ⟨n,?_⟩
 have haw:law35_awake n = some true:=by rw [hn]; exact awake35'
 unfold law35_HostParts
 obtain ⟨b,hb,hs⟩:=small_eq n a0 (by omega)
 rw [hb,Option.bind_some,haw]
 cases b with
 | false=>rfl
 | true =>
  have hs:=(hs rfl).1
  obtain ⟨b2,hb2,hs2⟩:=deeds_few n a1 40 (by omega) (by omega)
  rw [if_pos (by rfl),show (40:Int) = ((40:Nat):Int) from rfl,hb2,Option.bind_some]
  cases b2 with
  | false=>rfl
  | true =>
   obtain ⟨hl,hf⟩:=hs2 rfl
   simp only [lett,Bool.not_true,cond_false]
   by_cases hx:(bif (bif (bif (decide (a2 < 0)) then true else (decide (a3 < 0))) then true else (decide (a2 > 3000))) then true else (decide (a3 > 3000))) = true
   ·rw [if_pos hx]; rfl
   rw [if_neg hx]
   simp only [Bool.cond_true_left,Bool.or_eq_true,decide_eq_true_eq] at hx
   have hw23:IntKind.wrap .i64 (a2 + a3) = a2 + a3:=wrap_id _ (by omega) (by omega)
   have e1:=anyScan (L:=law35_HostParts_l1 n a0 a1 a2 a3) a1 (fun d=>(bif decide (d.f_Call.f_Spec.f_Health.f_Every < 20) then decide (IntKind.wrap .i64 (a2 + a3) > 200) else false)) () true (by omega)
    (fun k i h=>by
     rw [law35_HostParts_l1,if_pos (lt_i h),if_pos (in_i h),at_i h,haw]
     rfl)
    (fun k=>by rw [law35_HostParts_l1,nlt_n]; rfl) n 0 (by omega) (by omega)
   have e1:law35_HostParts_l1 n a0 a1 a2 a3 n 0 = _:=e1
   rw [e1,List.drop_zero,Option.bind_some]
   split
   ·rfl
   rw [Sum.elim_inl]
   obtain ⟨h,hq,hplay⟩:=played_eq n hn a0 a1 hs (by omega) hf
   have n0:=hq.now0
   have nk:=hq.nowk
   have c2:clampP a2 = a2:=by unfold clampP; rw [if_neg (show ¬ (0:Int) > a2 by omega),if_neg (by omega)]
   have c3:clampP a3 = a3:=by unfold clampP; rw [if_neg (show ¬ (0:Int) > a3 by omega),if_neg (by omega)]
   have c23:clampP (a2 + a3) = a2 + a3:=by unfold clampP; rw [if_neg (show ¬ (0:Int) > a2 + a3 by omega),if_neg (by omega)]
   rw [hplay,Option.bind_some,Option.bind_some,hw23]
   obtain ⟨⟨ev1,p1⟩,t1,i1,l1⟩:=ticks' n hn hq.inv.st (h.now + a2) (by omega) (by omega) []
   obtain ⟨⟨ev2,p2⟩,t2,i2,l2⟩:=ticks' n hn i1 (h.now + a2 + a3) (by omega) (by omega) []
   obtain ⟨⟨ev,p⟩,t3,i3,l3⟩:=ticks' n hn hq.inv.st (h.now + (a2 + a3)) (by omega) (by omega) []
   simp only [List.length_nil] at l1 l2 l3
   have hw1:IntKind.wrap .i64 (h.now + clampP a2) = h.now + clampP a2:=wrap_id _ (by omega) (by omega)
   have hw3:IntKind.wrap .i64 (h.now + clampP (a2 + a3)) = h.now + clampP (a2 + a3):=wrap_id _ (by omega) (by omega)
   have hw2:IntKind.wrap .i64 ((⟨p1,h.plan,h.now + a2⟩:PH).now + clampP a3) = (⟨p1,h.plan,h.now + a2⟩:PH).now + clampP a3:=wrap_id _ (by show _ ≤ h.now + a2 + clampP a3; omega) (by show h.now + a2 + clampP a3 ≤ _; omega)
   have two:=tickL_two (show h.now + a2 ≤ h.now + (a2 + a3) by omega) n n [] h.st (ev1,p1) (ev1 ++ ev2,p2) t1 (by
    rw [tickL_acc,show h.now + (a2 + a3) = h.now + a2 + a3 by omega,t2]; rfl)
   have:=(tickL_mono n (n + n) _ _ _ _ (by omega) t3).symm.trans two
   have this:=Option.some.inj this
   have hev:ev = ev1 ++ ev2:=congrArg Prod.fst this
   have hpp:p = p2:=congrArg Prod.snd this
   have T3:=Tick_o_eq n hn hq.inv (by omega) (a2 + a3) hw3 (by rw [c23]; exact t3)
   have T1:=Tick_o_eq n hn hq.inv (by omega) a2 hw1 (by rw [c2]; exact t1)
   rw [c2] at T1
   have T2:=Tick_o_eq (h:=⟨p1,h.plan,h.now + a2⟩) n hn ⟨i1,hq.inv.plan⟩ (by omega) a3 hw2 (by rw [c3]; exact t2)
   rw [c3] at T2
   rw [c23] at T3
   rw [T3,Option.bind_some,Events_o_eq n ev (by omega) hn,Option.bind_some,T1,Option.bind_some,Events_o_eq n ev1 (by omega) hn,Option.bind_some,T2,Option.bind_some,Events_o_eq n ev2 (by omega) hn,Option.bind_some,if_pos (lim33 (by omega)),← hev,sameEv_refl n ev (by omega) hn,Option.bind_some]
   have hh:(⟨p,h.plan,h.now + (a2 + a3)⟩:PH) = ⟨p2,h.plan,h.now + a2 + a3⟩:=by rw [hpp,Int.add_assoc]
   simp only [hh]
   have hi2:HInv a1.length (⟨p2,h.plan,h.now + a2 + a3⟩:PH):=⟨i2,hq.inv.plan⟩
   unfold host_Host_Now__o0
   simp only [Bool.not_true,beq_self_eq_true,if_true,cond_false,bne_self_eq_false]
   rw [HBoxes_eq n hi2 (by omega) (by omega),Option.bind_some,Option.bind_some]
   dsimp only
   have h64:p2.bs.length ≤ 64:=i2.boxes
   rw [sameBoxes_refl n _ (by simp; omega) (seenB_few i2) (by omega),Option.bind_some,if_neg (by decide)]
   have hsort:=tick_sorted (k0:=a1.length) (v:=h.now + (a2 + a3)) (by omega) n [] h.st (ev,p) hq.inv.st .nil (fun e he=>by cases he) t3
   have:=l2_sorted n ev (by omega) hsort n 1 (by omega) (by omega)
   have this:law35_HostParts_l2 n ev n 1 = _:=this
   rw [this]; rfl
end Go.Proofs.YtaecmkldkljioaaGreat.M
