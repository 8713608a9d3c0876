import Derived.Test.YtibgdilkodjojaaDoorQP14B
set_option linter.all false
namespace Go.Proofs.YtibgdilkodjojaaDoor.M
open Go Go.Proofs.YtibgdilkodjojaaDoor.RX Go.Proofs.YtibgdilkodjojaaDoor.PL
set_option maxRecDepth 100000
abbrev Er:=(Int × BS × BS) ⊕ BS
def exl (f:TP → Er):BS → List TP → Er
 | acc,[]=>.inr acc
 | acc,p :: l=>match f p with | .inl e=>.inl e | .inr t=>if 8192 < (acc ++ t).length then .inl (9,[],[]) else exl f (acc ++ t) l
def exP (e:List Vr) (R:List TP → Er) (Tm:List TP → BS) (p:TP):Er :=
 if p.f_Op = 0 then .inr p.f_Text else
 match firstV e p.f_Name with
 | none=>if p.f_Op = 2 ∨ p.f_Op = 3 then R p.f_Sub else if p.f_Op = 4 ∨ p.f_Op = 5 then .inl (4,p.f_Name,Tm p.f_Sub) else .inr []
 | some v=>if (p.f_Op = 2 ∧ v = []) ∨ (p.f_Op = 6 ∧ v ≠ []) ∨ p.f_Op = 7 then R p.f_Sub else if p.f_Op = 4 ∧ v = [] then .inl (4,p.f_Name,Tm p.f_Sub) else if 5 < p.f_Op then .inr [] else .inr v
def ex:Nat → List Vr → List TP → Er
 | 0,_,_=>.inr []
 | m + 1,e,l=>exl (exP e (ex m e) (T m)) [] l
def flt (f:Int × BS × BS):S_subst_fault:=⟨f.1,f.2.1,f.2.2⟩
theorem exl_le {f:TP → Er}:∀ {l:List TP} {acc t:BS},acc.length ≤ 8192 → exl f acc l = .inr t → t.length ≤ 8192
 | [],acc,t,h,he=>by cases he; exact h
 | p :: l,acc,t,h,he=>by
  rw [exl] at he
  split at he
  ·cases he
  ·split at he
   ·cases he
   ·exact exl_le (by omega) he
theorem ex_le {m:Nat} {e:List Vr} {l:List TP} {t:BS} (h:ex m e l = .inr t):t.length ≤ 8192:=by
 cases m with
 | zero=>cases h; exact Nat.zero_le _
 | succ m=>exact exl_le (Nat.zero_le _) h
theorem firstV_mem {e:List Vr} {x v:BS} (h:firstV e x = some v):∃ w ∈ e,w.f_Val = v:=by
 unfold firstV at h
 obtain ⟨w,h1,h2⟩:=Option.map_eq_some_iff.1 h
 exact ⟨w,List.mem_of_find?_eq_some h1,h2⟩
theorem exP_le {m:Nat} {e:List Vr} {p:TP} {t:BS} (he:∀ v ∈ e,v.f_Val.length ≤ 100) (hp:p.f_Op = 0 → p.f_Text.length ≤ 100000) (h:exP e (ex m e) (T m) p = .inr t):t.length ≤ 100000:=by
 unfold exP at h
 split at h
 ·rename_i h0; cases h; exact hp h0
 ·split at h
  ·split at h
   ·have:=ex_le h; omega
   ·split at h <;> cases h
    exact Nat.zero_le _
  ·rename_i v hv
   split at h
   ·have:=ex_le h; omega
   ·split at h
    ·cases h
    ·split at h <;> cases h
     ·exact Nat.zero_le _
     ·obtain ⟨w,h1,rfl⟩:=firstV_mem hv; have:=he w h1; omega
abbrev RS:=List TP → S_subst_with → Option (BS × S_subst_with)
abbrev PS:=List TP → S_subst_with → Option (S_subst_fault × S_subst_with)
def Says (R:RS) (P:PS) (e:List Vr) (l:List TP):Er → Prop
 | .inr t=>R l ⟨e⟩ = some (t,⟨e⟩)
 | .inl f=>R l ⟨e⟩ = none ∧ P l ⟨e⟩ = some (flt f,⟨e⟩)
def Say1 (R:RS) (P:PS) (n:Nat) (e:List Vr) (p:TP):Er → Prop
 | .inr t=>subst_with_part__o0 R n p ⟨e⟩ = some (t,⟨e⟩)
 | .inl f=>subst_with_part__o0 R n p ⟨e⟩ = none ∧ p_subst_with_part__o0 R P n p ⟨e⟩ = some (flt f,⟨e⟩)
theorem part_says (R:RS) (P:PS) (n m:Nat) (e:List Vr) (p:TP) (hs:p.f_Op ≠ 0 → Says R P e p.f_Sub (ex m e p.f_Sub)) (hT:p.f_Op ≠ 0 → tmpl_Text n p.f_Sub = some (T m p.f_Sub))
  (hop:p.f_Op = 0 ∨ ∃ op:Nat,p.f_Op = (op:Int) ∧ 1 ≤ op ∧ op ≤ 7) (hl:e.length ≤ 100000) (hn:e.length < n):Say1 R P n e p (exP e (ex m e) (T m) p):=by
 obtain ⟨nm,tx,o,sb⟩:=p
 simp only at hs hT hop
 by_cases h0:o = 0
 ·subst h0
  show subst_with_part__o0 R n _ ⟨e⟩ = some (tx,⟨e⟩)
  simp [subst_with_part__o0]
 ·obtain ⟨op,rfl,h1,h7⟩:=hop.resolve_left h0
  replace hs:=hs h0
  replace hT:=hT h0
  have hz:((op:Int) == 0) = false:=by simpa using h0
  unfold exP
  simp only [h0,if_false]
  have hg:=get_eq n e nm hl hn
  have key:∀ (x:Er),(∀ (r:BS × Bool),env_Get n e nm = some r → match x with
    | .inr t=>(subst_with_part__o0_j1 R n r.1 r.2 (bif r.2 then (!(r.1 == [])) else false) (op:Int) ⟨nm,tx,op,sb⟩ ⟨e⟩).bind (fun o2=>(Sum.elim (fun o2=>some (r.1,o2)) (fun o2=>some (o2.1,o2.2))) o2) = some (t,⟨e⟩)
    | .inl f=>subst_with_part__o0_j1 R n r.1 r.2 (bif r.2 then (!(r.1 == [])) else false) (op:Int) ⟨nm,tx,op,sb⟩ ⟨e⟩ = none ∧ p_subst_with_part__o0_j1 R P n r.1 r.2 (bif r.2 then (!(r.1 == [])) else false) (op:Int) ⟨nm,tx,op,sb⟩ ⟨e⟩ = some (flt f,⟨e⟩)) → Say1 R P n e ⟨nm,tx,op,sb⟩ x:=by
   intro x h
   cases x with
   | inr t =>
    show subst_with_part__o0 R n _ ⟨e⟩ = _
    unfold subst_with_part__o0
    rw [if_neg (by simpa using h0),hg,Option.bind_some]
    exact h _ hg
   | inl f =>
    refine ⟨?_,?_⟩
    ·unfold subst_with_part__o0
     rw [if_neg (by simpa using h0),hg,Option.bind_some]
     have:=(h _ hg).1
     simp only at this ⊢
     rw [this]; rfl
    ·unfold p_subst_with_part__o0
     rw [if_neg (by simpa using h0),hg,Option.bind_some]
     exact (h _ hg).2
  refine key _ fun r hr=>?_
  rw [hg] at hr
  cases hr
  have ho:op = 1 ∨ op = 2 ∨ op = 3 ∨ op = 4 ∨ op = 5 ∨ op = 6 ∨ op = 7:=by omega
  cases hx:ex m e sb with
  | inr t =>
   rw [hx] at hs
   have hs:R sb ⟨e⟩ = some (t,⟨e⟩):=hs
   cases hf:firstV e nm with
   | none=>rcases ho with rfl | rfl | rfl | rfl | rfl | rfl | rfl <;> simp [subst_with_part__o0_j1,subst_with_part__o0_j2,subst_with_part__o0_j3,p_subst_with_part__o0_j1,hs,hx,hT,flt]
   | some v=>rcases ho with rfl | rfl | rfl | rfl | rfl | rfl | rfl <;> by_cases hv:v = [] <;> simp [subst_with_part__o0_j1,subst_with_part__o0_j2,subst_with_part__o0_j3,p_subst_with_part__o0_j1,hs,hx,hT,hv,flt]
  | inl f =>
   rw [hx] at hs
   obtain ⟨hs,hp⟩:R sb ⟨e⟩ = none ∧ P sb ⟨e⟩ = some (flt f,⟨e⟩):=hs
   cases hf:firstV e nm with
   | none=>rcases ho with rfl | rfl | rfl | rfl | rfl | rfl | rfl <;> simp [subst_with_part__o0_j1,subst_with_part__o0_j2,subst_with_part__o0_j3,p_subst_with_part__o0_j1,hs,hp,hx,hT,flt]
   | some v=>rcases ho with rfl | rfl | rfl | rfl | rfl | rfl | rfl <;> by_cases hv:v = [] <;> simp [subst_with_part__o0_j1,subst_with_part__o0_j2,subst_with_part__o0_j3,p_subst_with_part__o0_j1,hs,hp,hx,hT,hv,flt]
theorem says_l1 (R:RS) (P:PS) (n m:Nat) (e:List Vr) (l:List TP) (hN:l.length < 1000000) (hh:∀ p ∈ l,Say1 R P n e p (exP e (ex m e) (T m) p)) (ht:∀ p ∈ l,∀ t,exP e (ex m e) (T m) p = .inr t → t.length ≤ 100000) :
  ∀ (k i:Nat) (acc:BS),i ≤ l.length → l.length - i < k → acc.length ≤ 8192 → match exl (exP e (ex m e) (T m)) acc (l.drop i) with
   | .inr t=>subst_with_parts__o0_l1 R n l (l.length:Int) k acc (i:Int) ⟨e⟩ = some (t,⟨e⟩)
   | .inl f=>subst_with_parts__o0_l1 R n l (l.length:Int) k acc (i:Int) ⟨e⟩ = none ∧ p_subst_with_parts__o0_l1 R P n l (l.length:Int) k acc (i:Int) ⟨e⟩ = some (flt f,⟨e⟩)
 | 0,i,_,_,h,_=>by omega
 | k + 1,i,acc,h1,h2,h3=>by
  by_cases h:i < l.length
  ·rw [drop_at h,exl,subst_with_parts__o0_l1,p_subst_with_parts__o0_l1,if_pos (lt_i h),if_pos (lt_i h)]
   have hp:=hh l[i] (List.getElem_mem h)
   have hle:=ht l[i] (List.getElem_mem h)
   unfold subst_with_parts__o0_j2 p_subst_with_parts__o0_j2
   rw [if_pos (in_i h),at_i h]
   cases hx:exP e (ex m e) (T m) l[i] with
   | inl f =>
    rw [hx] at hp
    obtain ⟨q1,q2⟩:=hp
    rw [q1]
    simp only [Option.bind_none,true_and]
    rw [if_pos (in_i h)]
    exact q2
   | inr t =>
    rw [hx] at hp
    have q1:subst_with_part__o0 R n l[i] ⟨e⟩ = some (t,⟨e⟩):=hp
    have q2:=hle t hx
    have hc:decide ((List.length acc + List.length t) * (1 + 1) ≤ limit) = true:=decide_eq_true (by show (acc.length + t.length) * (1 + 1) ≤ 140737488355328; omega)
    rw [q1,Option.bind_some]
    simp only [hc,if_true]
    by_cases hb:8192 < (acc ++ t).length
    ·rw [if_pos hb,if_pos (decide_eq_true (by omega))]
     simp only [Option.bind_none,true_and,if_pos (in_i h)]
     rw [if_pos (decide_eq_true (by omega))]
     rfl
    ·rw [if_neg hb,if_neg (by simp only [decide_eq_true_eq]; omega),Option.bind_some]
     simp only
     rw [wrap_s i (by omega)]
     exact says_l1 R P n m e l hN hh ht k (i + 1) (acc ++ t) (by omega) (by omega) (by omega)
  ·have hi:i = l.length:=by omega
   subst hi
   rw [List.drop_eq_nil_of_le (Nat.le_refl _),exl,subst_with_parts__o0_l1,nlt_n]
   rfl
theorem parts_say (e:List Vr) (he:∀ v ∈ e,v.f_Val.length ≤ 100) (hl:e.length ≤ 100000):∀ (m d n:Nat) (l:List TP),d + m = 9 → 1 ≤ d → V d l → (T (m + 1) l).length ≤ 100000 → 100002 + m ≤ n →
  Says (subst_with_parts__o0 n) (p_subst_with_parts__o0 n) e l (ex (m + 1) e l)
 | m,d,n,l,hdm,hd,hV,hT,hn=>by
  obtain ⟨n,rfl⟩:∃ n',n = n' + 1:=⟨n - 1,by omega⟩
  have hmem:=V_mem hV
  have hlen:=V_len hV m
  have hsub:∀ p ∈ l,p.f_Op ≠ 0 → ∃ m',m = m' + 1 ∧ V (d + 1) p.f_Sub ∧ (T m p.f_Sub).length ≤ 100000:=by
   intro p hp h0
   obtain ⟨h8,op,o1,o2,o3,o4,o5⟩:=(hmem p hp).resolve_left (fun h=>h0 h.1)
   have:=sub_le m hp h0
   exact ⟨m - 1,by omega,o4,by omega⟩
  have h1:=says_l1 (subst_with_parts__o0 n) (p_subst_with_parts__o0 n) n m e l (by omega) (fun p hp=>part_says _ _ n m e p (fun h0=>by
    obtain ⟨m',rfl,h3,h4⟩:=hsub p hp h0
    exact parts_say e he hl m' (d + 1) n p.f_Sub (by omega) (by omega) h3 h4 (by omega)) (fun h0=>by
    obtain ⟨m',rfl,h3,h4⟩:=hsub p hp h0
    exact Text_eq m' (d + 1) n p.f_Sub (by omega) (by omega) h3 h4 (by omega)) ((hmem p hp).elim (fun h=>.inl h.1) fun ⟨_,op,a,b,c,_,_⟩=>.inr ⟨op,a,b,c⟩) hl (by omega)) (fun p hp t ht=>exP_le he (fun h0=>by
    have h5:=pc_le m hp
    rw [pc,if_pos h0] at h5
    have:=(escS_len p.f_Text).1
    omega) ht) n 0 [] (by omega) (by omega) (Nat.zero_le _)
  rw [List.drop_zero] at h1
  have hexd:ex (m + 1) e l = exl (exP e (ex m e) (T m)) [] l:=rfl
  rw [hexd]
  cases hx:exl (exP e (ex m e) (T m)) [] l with
  | inr t =>
   rw [hx] at h1
   show subst_with_parts__o0_b (subst_with_parts__o0 n) n l ⟨e⟩ = _
   unfold subst_with_parts__o0_b
   have h1:subst_with_parts__o0_l1 (subst_with_parts__o0 n) n l (l.length:Int) n [] 0 ⟨e⟩ = some (t,⟨e⟩):=h1
   rw [h1]; rfl
  | inl f =>
   rw [hx] at h1
   obtain ⟨h1,h2⟩:=h1
   have h1:subst_with_parts__o0_l1 (subst_with_parts__o0 n) n l (l.length:Int) n [] 0 ⟨e⟩ = none:=h1
   refine ⟨?_,h2⟩
   show subst_with_parts__o0_b (subst_with_parts__o0 n) n l ⟨e⟩ = _
   unfold subst_with_parts__o0_b
   rw [h1]; rfl
 termination_by m=>m
theorem expand_eq (n:Nat) (e:List Vr) (he:∀ v ∈ e,v.f_Val.length ≤ 100) (hl:e.length ≤ 100000) (l:List TP) (hV:V 1 l) (hT:(T 9 l).length ≤ 100000) (hn:200000 ≤ n) :
  subst_expand n l e = some (match ex 9 e l with | .inr t=>(t,⟨0,[],[]⟩) | .inl f=>([],flt f)):=by
 have h:=parts_say e he hl 8 1 n l rfl (Nat.le_refl _) hV hT (by omega)
 unfold subst_expand
 cases hx:ex 9 e l with
 | inr t =>
  rw [hx] at h
  have h:subst_with_parts__o0 n l ⟨e⟩ = some (t,⟨e⟩):=h
  rw [h]
 | inl f =>
  rw [hx] at h
  obtain ⟨h1,h2⟩:=h
  rw [h1]
  simp only
  rw [h2]; rfl
theorem ex_code:∀ (m:Nat) (e:List Vr) (l:List TP) (f:Int × BS × BS),ex m e l = .inl f → f.1 = 4 ∨ f.1 = 9
 | 0,e,l,f,h=>by cases h
 | m + 1,e,l,f,h=>by
  have h1:∀ p,exP e (ex m e) (T m) p = .inl f → f.1 = 4 ∨ f.1 = 9:=by
   intro p hp
   unfold exP at hp
   split at hp
   ·cases hp
   ·split at hp
    ·split at hp
     ·exact ex_code m e _ f hp
     ·split at hp <;> cases hp
      exact .inl rfl
    ·split at hp
     ·exact ex_code m e _ f hp
     ·split at hp
      ·cases hp; exact .inl rfl
      ·split at hp <;> cases hp
  have h2:∀ (l:List TP) (acc:BS),exl (exP e (ex m e) (T m)) acc l = .inl f → f.1 = 4 ∨ f.1 = 9:=by
   intro l
   induction l with
   | nil=>intro acc h; cases h
   | cons p l ih =>
    intro acc h
    rw [exl] at h
    split at h
    ·rename_i e' he; cases h; exact h1 p he
    ·split at h
     ·cases h; exact .inr rfl
     ·exact ih _ h
  exact h2 l [] h
end Go.Proofs.YtibgdilkodjojaaDoor.M
