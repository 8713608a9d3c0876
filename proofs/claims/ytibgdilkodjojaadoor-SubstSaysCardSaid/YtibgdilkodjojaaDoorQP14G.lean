import Derived.Test.YtibgdilkodjojaaDoorQP14F
set_option linter.all false
namespace Go.Proofs.YtibgdilkodjojaaDoor.M
open Go Go.Proofs.YtibgdilkodjojaaDoor.RX Go.Proofs.YtibgdilkodjojaaDoor.PL
set_option maxRecDepth 100000
def said:Er → S_ref14_Said
 | .inr t=>⟨t,[],[],0⟩
 | .inl f=>⟨[],f.2.1,f.2.2,f.1⟩
theorem exP_code {m:Nat} {e:List Vr} {p:TP} {f:Int × BS × BS} (hp:exP e (ex m e) (T m) p = .inl f):f.1 ≠ 0:=by
 have hx:∀ l,ex m e l = .inl f → f.1 ≠ 0:=fun l h=>by rcases ex_code m e l f h with h | h <;> rw [h] <;> decide
 unfold exP at hp
 split at hp
 ·cases hp
 ·split at hp
  ·split at hp
   ·exact hx _ hp
   ·split at hp <;> cases hp
    show (4:Int) ≠ 0
    decide
  ·split at hp
   ·exact hx _ hp
   ·split at hp
    ·cases hp
     show (4:Int) ≠ 0
     decide
    ·split at hp <;> cases hp
theorem V_name {d:Nat} {l:List TP} (h:V d l):∀ p ∈ l,p.f_Op ≠ 0 → p.f_Name ≠ []:=by
 induction h with
 | nil d=>intro p hp; cases hp
 | text d t l ht hc h ih =>
  intro p hp h0
  rcases List.mem_cons.1 hp with rfl | hp
  ·exact absurd rfl h0
  ·exact ih p hp h0
 | var1 d nm l hd hv hw h ih =>
  intro p hp h0
  rcases List.mem_cons.1 hp with rfl | hp
  ·exact varB_ne hv
  ·exact ih p hp h0
 | var d nm op sb l hd hv hw h2 h7 hs hn h ihs ih =>
  intro p hp h0
  rcases List.mem_cons.1 hp with rfl | hp
  ·exact varB_ne hv
  ·exact ih p hp h0
def Fk (f:Int × BS × BS):Prop:=(f.1 = 4 ∧ f.2.1 ≠ []) ∨ f = (9,[],[])
theorem ex_key:∀ (m d:Nat) (e:List Vr) (l:List TP) (f:Int × BS × BS),V d l → ex m e l = .inl f → Fk f
 | 0,d,e,l,f,_,h=>by cases h
 | m + 1,d,e,l,f,hV,h=>by
  have hN:=V_name hV
  have hM:=V_mem hV
  have h1:∀ p ∈ l,exP e (ex m e) (T m) p = .inl f → Fk f:=by
   intro p hpl hp
   have hsub:p.f_Op ≠ 0 → ex m e p.f_Sub = .inl f → Fk f:=fun h0 hx=>by
    obtain ⟨_,op,_,_,_,o4,_⟩:=(hM p hpl).resolve_left (fun h=>h0 h.1)
    exact ex_key m (d + 1) e _ f o4 hx
   unfold exP at hp
   split at hp
   ·cases hp
   ·rename_i h0
    split at hp
    ·split at hp
     ·exact hsub h0 hp
     ·split at hp <;> cases hp
      exact .inl ⟨rfl,hN p hpl h0⟩
    ·split at hp
     ·exact hsub h0 hp
     ·split at hp
      ·cases hp; exact .inl ⟨rfl,hN p hpl h0⟩
      ·split at hp <;> cases hp
  have h2:∀ (k:List TP) (acc:BS),(∀ p ∈ k,exP e (ex m e) (T m) p = .inl f → Fk f) → exl (exP e (ex m e) (T m)) acc k = .inl f → Fk f:=by
   intro k
   induction k with
   | nil=>intro acc _ h; cases h
   | cons p k ih =>
    intro acc hk h
    rw [exl] at h
    split at h
    ·rename_i e' he; cases h; exact hk p (by simp) he
    ·split at h
     ·cases h; exact .inr rfl
     ·exact ih _ (fun q hq=>hk q (List.mem_cons_of_mem _ hq)) h
  exact h2 l [] h1 h
abbrev SR:=List RP → List Vr → Option S_ref14_Said
theorem rpart_eq (R:SR) (n m:Nat) (e:List Vr) (p:TP) (hs:p.f_Op ≠ 0 → R (Tk m p.f_Sub) e = some (said (ex m e p.f_Sub))) (hT:p.f_Op ≠ 0 → ref13_Text n (Tk m p.f_Sub) = some (T m p.f_Sub))
  (hop:p.f_Op = 0 ∨ ∃ op:Nat,p.f_Op = (op:Int) ∧ 1 ≤ op ∧ op ≤ 7) (hl:∀ x,ref12_Last n e x = some ((firstV e x).getD [],(firstV e x).isSome)):ref14_part R n (tk m p) e = some (said (exP e (ex m e) (T m) p)):=by
 obtain ⟨nm,tx,o,sb⟩:=p
 simp only at hs hT hop
 show ref14_part R n ⟨nm,tx,o,Tk m sb⟩ e = _
 by_cases h0:o = 0
 ·subst h0
  simp [ref14_part,exP,said]
 ·obtain ⟨op,rfl,h1,h7⟩:=hop.resolve_left h0
  replace hs:=hs h0
  replace hT:=hT h0
  unfold ref14_part exP
  simp only [h0,if_false]
  rw [if_neg (by simpa using h0),hl nm,Option.bind_some]
  have ho:op = 1 ∨ op = 2 ∨ op = 3 ∨ op = 4 ∨ op = 5 ∨ op = 6 ∨ op = 7:=by omega
  cases hf:firstV e nm with
  | none=>rcases ho with rfl | rfl | rfl | rfl | rfl | rfl | rfl <;> simp [lett,hs,hT,said]
  | some v =>
   rcases ho with rfl | rfl | rfl | rfl | rfl | rfl | rfl <;> cases v <;> simp [lett,hs,hT,said]
theorem rsays_l1 (R:SR) (n m:Nat) (e:List Vr) (l:List TP) (b:S_ref14_Said) (hN:l.length < 1000000) (hh:∀ p ∈ l,ref14_part R n (tk m p) e = some (said (exP e (ex m e) (T m) p))) (ht:∀ p ∈ l,∀ t,exP e (ex m e) (T m) p = .inr t → t.length ≤ 100000) :
  ∀ (k i:Nat) (acc:BS),i ≤ l.length → l.length - i < k → acc.length ≤ 8192 → ref14_Parts_l1 R n (Tk (m + 1) l) e k acc (i:Int) b = some (match exl (exP e (ex m e) (T m)) acc (l.drop i) with
   | .inr t=>.inl (t,b)
   | .inl f=>.inr (said (.inl f)))
 | 0,i,_,_,h,_=>by omega
 | k + 1,i,acc,h1,h2,h3=>by
  by_cases h:i < l.length
  ·have h':i < (Tk (m + 1) l).length:=by rw [Tk_len]; exact h
   have hp:=hh l[i] (List.getElem_mem h)
   have hle:=ht l[i] (List.getElem_mem h)
   rw [drop_at h,exl,ref14_Parts_l1,if_pos (lt_i h'),if_pos (in_i h'),at_i h',Tk_at m l i h h',hp,Option.bind_some]
   cases hx:exP e (ex m e) (T m) l[i] with
   | inl f =>
    have hz:((said (.inl f)).f_E != 0) = true:=by simpa [said] using exP_code hx
    rw [if_pos hz]
   | inr t =>
    have q2:=hle t hx
    have hz:((said (.inr t)).f_E != 0) = false:=rfl
    have hst:(said (.inr t)).f_Text = t:=rfl
    rw [hz,if_neg (by decide),hst,if_pos (str_fits (by omega))]
    simp only
    by_cases hb:8192 < (acc ++ t).length
    ·rw [if_pos hb,if_pos (decide_eq_true (by omega))]; rfl
    ·rw [if_neg hb,if_neg (by simp only [decide_eq_true_eq]; omega),wrap_s i (by omega)]
     exact rsays_l1 R n m e l b hN hh ht k (i + 1) (acc ++ t) (by omega) (by omega) (by omega)
  ·have hi:i = l.length:=by omega
   subst hi
   have hl:(l.length:Int) = ((Tk (m + 1) l).length:Int):=by rw [Tk_len]
   rw [List.drop_eq_nil_of_le (Nat.le_refl _),exl,ref14_Parts_l1,hl,nlt_n]
   rfl
theorem rparts_say (e:List Vr) (he:∀ v ∈ e,v.f_Val.length ≤ 100) (N0:Nat) (hl:∀ n,N0 < n → ∀ x,ref12_Last n e x = some ((firstV e x).getD [],(firstV e x).isSome)) (hN0:N0 ≤ 100000):∀ (m d n:Nat) (l:List TP),d + m = 9 → 1 ≤ d → V d l → (T (m + 1) l).length ≤ 50000 → 100003 + m ≤ n →
  ref14_Parts n (Tk (m + 1) l) e = some (said (ex (m + 1) e l))
 | m,d,n,l,hdm,hd,hV,hT,hn=>by
  obtain ⟨n,rfl⟩:∃ n',n = n' + 1:=⟨n - 1,by omega⟩
  have hmem:=V_mem hV
  have hlen:=V_len hV m
  have hsub:∀ p ∈ l,p.f_Op ≠ 0 → ∃ m',m = m' + 1 ∧ V (d + 1) p.f_Sub ∧ (T m p.f_Sub).length ≤ 50000:=by
   intro p hp h0
   obtain ⟨h8,op,o1,o2,o3,o4,o5⟩:=(hmem p hp).resolve_left (fun h=>h0 h.1)
   have:=sub_le m hp h0
   exact ⟨m - 1,by omega,o4,by omega⟩
  have h1:=rsays_l1 (ref14_Parts n) n m e l ⟨[],[],[],0⟩ (by omega) (fun p hp=>rpart_eq _ n m e p (fun h0=>by
    obtain ⟨m',rfl,h3,h4⟩:=hsub p hp h0
    exact rparts_say e he N0 hl hN0 m' (d + 1) n p.f_Sub (by omega) (by omega) h3 h4 (by omega)) (fun h0=>by
    obtain ⟨m',rfl,h3,h4⟩:=hsub p hp h0
    exact rText_eq m' (d + 1) n p.f_Sub (by omega) (by omega) h3 h4 (by omega)) ((hmem p hp).elim (fun h=>.inl h.1) fun ⟨_,op,a,b,c,_,_⟩=>.inr ⟨op,a,b,c⟩) (hl n (by omega))) (fun p hp t ht=>exP_le he (fun h0=>by
    have h5:=pc_le m hp
    rw [pc,if_pos h0] at h5
    have:=(escS_len p.f_Text).1
    omega) ht) n 0 [] (by omega) (by omega) (Nat.zero_le _)
  rw [List.drop_zero] at h1
  have h1:ref14_Parts_l1 (ref14_Parts n) n (Tk (m + 1) l) e n [] 0 ⟨[],[],[],0⟩ = _:=h1
  have hexd:ex (m + 1) e l = exl (exP e (ex m e) (T m)) [] l:=rfl
  show ref14_Parts_b (ref14_Parts n) n (Tk (m + 1) l) e = _
  unfold ref14_Parts_b
  rw [hexd,h1,Option.bind_some]
  cases hx:exl (exP e (ex m e) (T m)) [] l <;> rfl
 termination_by m=>m
theorem awake14:law14_awake 200000 = some true:=by kernel_rfl
theorem law14_SubstSays_true (a0:BS) (_:List.length a0 ≤ maxLen) (a1:List Vr) (_:W_Lapi_Var a1):∃ n,law14_SubstSays n a0 a1 = some true:=by
 obtain ⟨n,hn,haw⟩:∃ n,n = 200000 ∧ law14_awake n = some true:=⟨200000,rfl,awake14⟩
 refine ⟨n,?_⟩
 obtain ⟨p,p1,p2⟩:=few12 n a1 60 (by omega) (by omega)
 have p1:law12_Few n a1 60 = some p:=p1
 unfold law14_SubstSays
 by_cases hb:a0.length ≤ 1000
 ·have hd:decide ((List.length a0:Int) > 1000) = false:=decide_eq_false (by omega)
  rw [hd,if_pos (by decide),p1,Option.bind_some]
  cases p with
  | false=>simp only [cond_false,Bool.not_false,if_true,haw,Option.bind_some]
  | true =>
   obtain ⟨a1l,a1v⟩:=p2 rfl
   have hlen:=of_len a1
   obtain ⟨e,hee⟩:∃ e,e = of12 a1:=⟨_,rfl⟩
   have hval:∀ v ∈ e,v.f_Val.length ≤ 100:=fun v hv=>(of_mem a1v (by rw [← hee]; exact hv)).2
   have hlast:∀ n,100 < n → ∀ x,ref12_Last n e x = some ((firstV e x).getD [],(firstV e x).isSome):=fun n hn x=>by
    rw [last_eq n e x (by rw [hee]; omega) (by rw [hee]; omega),first_last (by rw [hee]; exact (of_asc a1).nodup) x]
   simp only [cond_false,Bool.not_true,Bool.false_eq_true,if_false]
   rw [rof_eq n a1 (by omega) (by omega),Option.bind_some,← hee]
   rw [← hee] at hlen
   obtain ⟨l,er,l1,l2,l3⟩:=Parse_okE n a0 (by omega) (by omega)
   by_cases her:er = 0
   ·subst her
    have hP:=l2 rfl
    obtain ⟨hV,hN⟩:=Ps_form hP
    have hT:(T 9 l).length ≤ 3 * a0.length:=by have:=(Ps_len hP (by omega) (by omega)).2; simpa using this
    have hx:=expand_eq n e hval (by omega) l hV (by omega) (by omega)
    have hr:=rparts_say e hval 100 hlast (by omega) 8 1 n l rfl (Nat.le_refl _) hV (by show (T 9 l).length ≤ _; omega) (by omega)
    have hr:ref14_Parts n (Tk 9 l) e = some (said (ex 9 e l)):=hr
    have z:((0:Int) != 0) = false:=rfl
    unfold subst_Text ref14_Text subst_Needs subst_Expand
    rw [l1,rParse_ok n a0 l (by omega) (by omega) hP]
    simp only [Option.bind_some,z,Bool.false_eq_true,if_false]
    rw [hx,hr]
    have hk:=fun f=>ex_key 9 1 e l f hV
    cases hxx:ex 9 e l with
    | inr t =>
     simp only [Option.bind_some,said,beq_self_eq_true,Bool.not_true,bne_self_eq_false,cond_false,cond_true,Bool.false_eq_true,if_false,if_true,haw,lett]
     rfl
    | inl f =>
     have hk:=hk f hxx
     have h4:((f.1 == 4) == (!(f.2.1 == []))) = true:=by
      rcases hk with ⟨h,h'⟩ | h
      ·rw [h]
       have:(f.2.1 == []) = false:=beq_eq_false_iff_ne.2 h'
       rw [this]; rfl
      ·rw [h]; rfl
     simp only [Option.bind_some,said,flt,beq_self_eq_true,Bool.not_true,bne_self_eq_false,cond_false,cond_true,Bool.false_eq_true,if_false,if_true,haw,lett,h4]
   ·obtain ⟨rfl,hE⟩:=l3 her
    have hz:(er != 0) = true:=by simpa using her
    unfold subst_Text ref14_Text
    rw [l1,rParse_err n a0 er (by omega) (by omega) hE]
    simp only [Option.bind_some,hz,if_true,beq_self_eq_true,Bool.not_true,bne_self_eq_false,cond_false,cond_true,Bool.false_eq_true,if_false,haw]
 ·have hd:decide ((List.length a0:Int) > 1000) = true:=decide_eq_true (by omega)
  rw [hd,if_neg (by decide),Option.bind_some]
  simp only [cond_true,if_true,haw,Option.bind_some]
end Go.Proofs.YtibgdilkodjojaaDoor.M
