import Derived.Test.YtibgdilkodjojaaDoorQP14
set_option linter.all false
namespace Go.Proofs.YtibgdilkodjojaaDoor.M
open Go Go.Proofs.YtibgdilkodjojaaDoor.RX Go.Proofs.YtibgdilkodjojaaDoor.PL
set_option maxRecDepth 100000
def escS (t:BS):BS:=t.flatMap (PL.sub 36 [36,36])
def mkS (op:Int):BS:=marks[op.toNat]?.getD []
def T:Nat → List TP → BS
 | 0,_=>[]
 | d + 1,l=>l.flatMap fun p=>if p.f_Op = 0 then escS p.f_Text else [36,123] ++ p.f_Name ++ mkS p.f_Op ++ T d p.f_Sub ++ [125]
def N:BS → List TP → List TP
 | w,[]=>fl w
 | w,p :: l=>if p.f_Op = 0 then N (w ++ p.f_Text) l else fl w ++ p :: N [] l
inductive V:Nat → List TP → Prop
 | nil (d:Nat):V d []
 | text (d:Nat) (t:BS) (l:List TP) (ht:t ≠ []) (hc:1 < d → (125:UInt8) ∉ t) (h:V d l):V d (S_tmpl_Part.mk [] t 0 [] :: l)
 | var1 (d:Nat) (nm:BS) (l:List TP) (hd:d ≤ 8) (hv:varB nm = true) (hw:∀ c ∈ nm,wordB c = true) (h:V d l):V d (S_tmpl_Part.mk nm [] 1 [] :: l)
 | var (d:Nat) (nm:BS) (op:Nat) (sb l:List TP) (hd:d ≤ 8) (hv:varB nm = true) (hw:∀ c ∈ nm,wordB c = true) (h2:2 ≤ op) (h7:op ≤ 7) (hs:V (d + 1) sb) (hn:N [] sb = sb) (h:V d l):V d (S_tmpl_Part.mk nm [] (op:Int) sb :: l)
theorem N_text (w t:BS) (l:List TP):N w (S_tmpl_Part.mk [] t 0 [] :: l) = N (w ++ t) l:=by rw [N,if_pos rfl]
theorem N_var (w:BS) (p:TP) (l:List TP) (h:p.f_Op ≠ 0):N w (p :: l) = fl w ++ p :: N [] l:=by rw [N,if_neg h]
theorem N_fl (v w:BS) (l:List TP):N v (fl w ++ l) = N (v ++ w) l:=by
 unfold fl
 by_cases h:w = []
 ·subst h; simp
 ·rw [if_neg h,List.singleton_append,N_text]
theorem N_N:∀ (k:List TP) (v w:BS),N v (N w k) = N (v ++ w) k
 | [],v,w=>by
  have:=N_fl v w []
  rw [List.append_nil] at this
  rw [show N w [] = fl w from rfl,this]
 | p :: k,v,w=>by
  by_cases h:p.f_Op = 0
  ·rw [N,if_pos h,N,if_pos h,N_N k,List.append_assoc]
  ·rw [N_var w p k h,N_var _ p k h,N_fl,N_var _ p _ h,N_N k]; rfl
theorem V_fl {d:Nat} {w:BS} {l:List TP} (hw:1 < d → (125:UInt8) ∉ w) (h:V d l):V d (fl w ++ l):=by
 unfold fl
 by_cases e:w = []
 ·rw [if_pos e]; exact h
 ·rw [if_neg e]; exact .text d w l e hw h
theorem V_N {d:Nat} {k:List TP} (h:V d k):∀ w:BS,(1 < d → (125:UInt8) ∉ w) → V d (N w k):=by
 induction h with
 | nil d=>intro w hw; have:=V_fl hw (.nil d); rwa [List.append_nil] at this
 | text d t l ht hc h ih =>
  intro w hw
  rw [N_text]
  exact ih _ fun h1 hm=>by rcases List.mem_append.1 hm with h2 | h2; exact hw h1 h2; exact hc h1 h2
 | var1 d nm l hd hv hwd h ih =>
  intro w hw
  rw [N_var _ _ _ (by show ¬ (1:Int) = 0; decide)]
  exact V_fl hw (.var1 d nm _ hd hv hwd (ih [] (by simp)))
 | var d nm op sb l hd hv hwd h2 h7 hs hn h ihs ih =>
  intro w hw
  rw [N_var _ _ _ (by show (op:Int) ≠ 0; omega)]
  exact V_fl hw (.var d nm op sb _ hd hv hwd h2 h7 hs hn (ih [] (by simp)))
theorem V_app {d:Nat} {k l:List TP} (h:V d k) (hl:V d l):V d (k ++ l):=by
 induction h with
 | nil d=>exact hl
 | text d t l' ht hc h ih=>exact .text d t _ ht hc (ih hl)
 | var1 d nm l' hd hv hwd h ih=>exact .var1 d nm _ hd hv hwd (ih hl)
 | var d nm op sb l' hd hv hwd h2 h7 hs hn h ihs ih=>exact .var d nm op sb _ hd hv hwd h2 h7 hs hn (ih hl)
theorem nm_word (r:BS):∀ c ∈ nmOf r,wordB c = true:=fun c hc=>by
 have:=List.all_takeWhile (p:=wordB) (l:=r)
 exact List.all_eq_true.1 this c hc
theorem Ps_V {d:Nat} {r w:BS} {l:List TP} {r':BS} (h:Ps d r w l r'):1 ≤ d → ∃ k,V d k ∧ l = N w k:=by
 induction h with
 | done d r w h=>intro _; exact ⟨[],.nil d,rfl⟩
 | char d c r w l r' h1 h2 h ih =>
  intro hd
  obtain ⟨k,k1,k2⟩:=ih hd
  exact ⟨S_tmpl_Part.mk [] [c] 0 [] :: k,.text d [c] k (by simp) (fun h3 hm=>h2 ⟨h3,(List.mem_singleton.1 hm).symm⟩) k1,by rw [N_text]; exact k2⟩
 | dollar d r w l r' h ih =>
  intro hd
  obtain ⟨k,k1,k2⟩:=ih hd
  exact ⟨S_tmpl_Part.mk [] [36] 0 [] :: k,.text d [36] k (by simp) (fun _=>by decide) k1,by rw [N_text]; exact k2⟩
 | plain d r w l r' hd8 h0 h1 hv h ih =>
  intro hd
  obtain ⟨k,k1,k2⟩:=ih hd
  exact ⟨_ :: k,.var1 d (nmOf r) k hd8 hv (nm_word r) k1,by rw [N_var _ _ _ (by show ¬ (1:Int) = 0; decide),k2]⟩
 | one d r w r1 l r' hd8 hv he h ih =>
  intro hd
  obtain ⟨k,k1,k2⟩:=ih hd
  exact ⟨_ :: k,.var1 d (nmOf r) k hd8 hv (nm_word r) k1,by rw [N_var _ _ _ (by show ¬ (1:Int) = 0; decide),k2]⟩
 | sub d r w sb r1 l r' hd8 hv hm hs h ihs ih =>
  intro hd
  obtain ⟨k,k1,k2⟩:=ih hd
  obtain ⟨ks,s1,s2⟩:=ihs (by omega)
  obtain ⟨m1,m2,m3,m4,m5⟩:=mk_len (afOf r)
  refine ⟨_ :: k,.var d (nmOf r) (mk (afOf r)).1 sb k hd8 hv (nm_word r) (by omega) m2 ?_ ?_ k1,by rw [N_var _ _ _ (by show (((mk (afOf r)).1:Nat):Int) ≠ 0; omega),k2]⟩
  ·rw [s2]; exact V_N s1 [] (by simp)
  ·rw [s2,N_N]; rfl
theorem Ps_form {s:BS} {l:List TP} (h:Ps 1 s [] l []):V 1 l ∧ N [] l = l:=by
 obtain ⟨k,k1,k2⟩:=Ps_V h (by omega)
 exact ⟨by rw [k2]; exact V_N k1 [] (by simp),by rw [k2,N_N]; rfl⟩
theorem T_nil (d:Nat):T d [] = []:=by cases d <;> rfl
theorem T_cons (d:Nat) (p:TP) (l:List TP):T (d + 1) (p :: l) = (if p.f_Op = 0 then escS p.f_Text else [36,123] ++ p.f_Name ++ mkS p.f_Op ++ T d p.f_Sub ++ [125]) ++ T (d + 1) l:=by
 show List.flatMap _ (p :: l) = _
 rw [List.flatMap_cons]; rfl
theorem T_app (d:Nat) (k l:List TP):T (d + 1) (k ++ l) = T (d + 1) k ++ T (d + 1) l:=by unfold T; rw [List.flatMap_append]
theorem escS_app (u v:BS):escS (u ++ v) = escS u ++ escS v:=by unfold escS; rw [List.flatMap_append]
theorem T_fl (d:Nat) (w:BS):T (d + 1) (fl w) = escS w:=by
 unfold fl
 by_cases h:w = []
 ·subst h; rfl
 ·rw [if_neg h,T_cons,if_pos rfl,T_nil,List.append_nil]
theorem T_N (d:Nat):∀ (k:List TP) (w:BS),T (d + 1) (N w k) = escS w ++ T (d + 1) k
 | [],w=>by rw [show N w [] = fl w from rfl,T_fl,T_nil,List.append_nil]
 | p :: k,w=>by
  by_cases h:p.f_Op = 0
  ·rw [N,if_pos h,T_N d k,T_cons,if_pos h,escS_app,List.append_assoc]
  ·rw [N_var w p k h,T_app,T_fl,T_cons,T_cons,T_N d k]
   rfl
theorem escS_cons (c:UInt8) (t:BS):escS (c :: t) = if c = 36 then 36 :: 36 :: escS t else c :: escS t:=by
 unfold escS
 rw [List.flatMap_cons]
 unfold PL.sub
 by_cases h:c = 36
 ·simp [h]
 ·simp [h]
theorem esc_run {d:Nat} {R:BS} {l:List TP} {r':BS}:∀ (t w:BS),(1 < d → (125:UInt8) ∉ t) → Ps d R (w ++ t) l r' → Ps d (escS t ++ R) w l r'
 | [],w,_,h=>by rw [List.append_nil] at h; exact h
 | c :: t,w,hc,h=>by
  have ih:=esc_run t (w ++ [c]) (fun h1 hm=>hc h1 (List.mem_cons_of_mem _ hm)) (by rw [List.append_assoc]; exact h)
  rw [escS_cons]
  by_cases h36:c = 36
  ·rw [if_pos h36]; subst h36; exact .dollar d _ w l r' ih
  ·rw [if_neg h36]
   exact .char d c _ w l r' h36 (fun hx=>hc hx.1 (by rw [hx.2]; exact List.mem_cons_self ..)) ih
theorem nm_app:∀ (nm:BS) (c:UInt8) (r:BS),(∀ x ∈ nm,wordB x = true) → wordB c = false → nmOf (nm ++ c :: r) = nm ∧ afOf (nm ++ c :: r) = c :: r
 | [],c,r,_,hc=>by
  simp only [nmOf,afOf]
  rw [List.nil_append,List.takeWhile_cons,List.dropWhile_cons]
  simp [hc]
 | x :: nm,c,r,h,hc=>by
  obtain ⟨h1,h2⟩:=nm_app nm c r (fun y hy=>h y (List.mem_cons_of_mem _ hy)) hc
  have hx:=h x (List.mem_cons_self ..)
  simp only [nmOf,afOf] at h1 h2 ⊢
  rw [List.cons_append,List.takeWhile_cons,List.dropWhile_cons,if_pos hx,if_pos hx,h1,h2]
  exact ⟨rfl,rfl⟩
theorem mkS_cases (op:Nat) (h2:2 ≤ op) (h7:op ≤ 7) (X:BS):∃ c t,mkS (op:Int) ++ X = c :: t ∧ wordB c = false ∧ mk (mkS (op:Int) ++ X) = (op,(mkS (op:Int)).length):=by
 have:op = 2 ∨ op = 3 ∨ op = 4 ∨ op = 5 ∨ op = 6 ∨ op = 7:=by omega
 rcases this with rfl | rfl | rfl | rfl | rfl | rfl
 ·exact ⟨58,45 :: X,rfl,by decide,rfl⟩
 ·exact ⟨45,X,rfl,by decide,rfl⟩
 ·exact ⟨58,63 :: X,rfl,by decide,rfl⟩
 ·exact ⟨63,X,rfl,by decide,rfl⟩
 ·exact ⟨58,43 :: X,rfl,by decide,rfl⟩
 ·exact ⟨43,X,rfl,by decide,rfl⟩
theorem V_Ps {d:Nat} {k:List TP} (h:V d k):1 ≤ d → d ≤ 9 → ∀ (rest w:BS),(rest = [] ∨ (1 < d ∧ rest.head? = some 125)) → Ps d (T (10 - d) k ++ rest) w (N w k) rest:=by
 induction h with
 | nil d=>intro hd1 hd rest w hr; rw [T_nil]; exact .done d rest w hr
 | text d t l ht hc h ih =>
  intro hd1 hd rest w hr
  obtain ⟨m,hm⟩:∃ m,10 - d = m + 1:=⟨9 - d,by omega⟩
  have:=ih hd1 hd rest (w ++ t) hr
  rw [hm] at this ⊢
  rw [N_text,T_cons,if_pos rfl,List.append_assoc]
  exact esc_run t w hc this
 | var1 d nm l hd8 hv hw h ih =>
  intro hd1 hd rest w hr
  obtain ⟨m,hm⟩:∃ m,10 - d = m + 1:=⟨9 - d,by omega⟩
  have:=ih hd1 hd rest [] hr
  rw [hm] at this ⊢
  rw [N_var _ _ _ (by show ¬ (1:Int) = 0; decide),T_cons,if_neg (by show ¬ (1:Int) = 0; decide),T_nil]
  have e:[36,123] ++ nm ++ mkS 1 ++ [] ++ [125] ++ T (m + 1) l ++ rest = 36 :: 123 :: (nm ++ 125 :: (T (m + 1) l ++ rest)):=by
   rw [show mkS 1 = [] from rfl]; simp
  rw [e]
  obtain ⟨n1,n2⟩:=nm_app nm 125 (T (m + 1) l ++ rest) hw (by decide)
  have:=Ps.one d (nm ++ 125 :: (T (m + 1) l ++ rest)) w (T (m + 1) l ++ rest) (N [] l) rest hd8 (by rw [n1]; exact hv) n2 this
  rw [n1] at this
  exact this
 | var d nm op sb l hd8 hv hw h2 h7 hs hn h ihs ih =>
  intro hd1 hd rest w hr
  obtain ⟨m,hm⟩:∃ m,10 - d = m + 1:=⟨9 - d,by omega⟩
  have h1:=ih hd1 hd rest [] hr
  have h3:=ihs (by omega) (by omega) (125 :: (T (m + 1) l ++ rest)) [] (.inr ⟨by omega,rfl⟩)
  rw [hm] at h1 ⊢
  rw [show 10 - (d + 1) = m by omega,hn] at h3
  have hop:¬ (S_tmpl_Part.mk nm [] (op:Int) sb).f_Op = 0:=by show ¬ ((op:Int) = 0); omega
  rw [N_var _ _ _ hop,T_cons,if_neg hop]
  have e:[36,123] ++ nm ++ mkS (op:Int) ++ T m sb ++ [125] ++ T (m + 1) l ++ rest = 36 :: 123 :: (nm ++ (mkS (op:Int) ++ (T m sb ++ 125 :: (T (m + 1) l ++ rest)))):=by simp
  simp only
  rw [e]
  obtain ⟨c,t,c1,c2,c3⟩:=mkS_cases op h2 h7 (T m sb ++ 125 :: (T (m + 1) l ++ rest))
  obtain ⟨n1,n2⟩:=nm_app nm c t hw c2
  rw [← c1] at n1 n2
  have:=Ps.sub d (nm ++ (mkS (op:Int) ++ (T m sb ++ 125 :: (T (m + 1) l ++ rest)))) w sb (T (m + 1) l ++ rest) (N [] l) rest hd8 (by rw [n1]; exact hv) (by rw [n2,c3]; simp only; omega)
   (by rw [n2,c3]; simp only; rw [List.drop_left]; exact h3) h1
  rw [n1,n2,c3] at this
  exact this
theorem escS_len:∀ w:BS,w.length ≤ (escS w).length ∧ (escS w).length ≤ 2 * w.length
 | []=>⟨Nat.le_refl _,Nat.le_refl _⟩
 | c :: w=>by
  obtain ⟨h1,h2⟩:=escS_len w
  rw [escS_cons]
  split
  ·simp; omega
  ·simp; omega
theorem Ps_len {d:Nat} {r w:BS} {l:List TP} {r':BS} (h:Ps d r w l r'):1 ≤ d → d ≤ 9 → r'.length ≤ r.length ∧ (T (10 - d) l).length + 3 * r'.length ≤ 3 * r.length + 2 * w.length:=by
 induction h with
 | done d r w h =>
  intro _ hd
  obtain ⟨m,hm⟩:∃ m,10 - d = m + 1:=⟨9 - d,by omega⟩
  rw [hm,T_fl]
  have:=escS_len w
  omega
 | char d c r w l r' h1 h2 h ih=>intro hd1 hd; have:=ih hd1 hd; simp at this ⊢; omega
 | dollar d r w l r' h ih=>intro hd1 hd; have:=ih hd1 hd; simp at this ⊢; omega
 | plain d r w l r' hd8 h0 h1 hv h ih =>
  intro hd1 hd
  have h:=ih hd1 hd
  obtain ⟨m,hm⟩:∃ m,10 - d = m + 1:=⟨9 - d,by omega⟩
  rw [hm] at h ⊢
  have hl:=congrArg List.length (nm_af r)
  have hne:=List.length_pos_iff.2 (varB_ne hv)
  have he:=escS_len w
  rw [T_app,T_fl,T_cons,if_neg (by show ¬ (1:Int) = 0; decide),T_nil,show mkS 1 = [] from rfl]
  simp at h hl ⊢
  omega
 | one d r w r1 l r' hd8 hv hf h ih =>
  intro hd1 hd
  have h:=ih hd1 hd
  obtain ⟨m,hm⟩:∃ m,10 - d = m + 1:=⟨9 - d,by omega⟩
  rw [hm] at h ⊢
  have hl:=congrArg List.length (nm_af r)
  rw [hf] at hl
  have he:=escS_len w
  rw [T_app,T_fl,T_cons,if_neg (by show ¬ (1:Int) = 0; decide),T_nil,show mkS 1 = [] from rfl]
  simp at h hl ⊢
  omega
 | sub d r w sb r1 l r' hd8 hv ho hs h ihs ih =>
  intro hd1 hd
  have h1:=ih hd1 hd
  have h2:=ihs (by omega) (by omega)
  obtain ⟨m,hm⟩:∃ m,10 - d = m + 1:=⟨9 - d,by omega⟩
  rw [hm] at h1 ⊢
  rw [show 10 - (d + 1) = m by omega] at h2
  have hl:=congrArg List.length (nm_af r)
  have he:=escS_len w
  obtain ⟨m1,m2,m3,m4,m5⟩:=mk_len (afOf r)
  have hmk:(mkS (((mk (afOf r)).1:Nat):Int)).length = (mk (afOf r)).2:=by
   have:∀ x:BS,(mkS (((mk x).1:Nat):Int)).length = (mk x).2:=by
    intro x
    cases x with
    | nil=>rfl
    | cons c x =>
     cases x with
     | nil =>
      simp only [mk]
      repeat' split
      all_goals rfl
     | cons e x =>
      simp only [mk]
      repeat' split
      all_goals rfl
   exact this _
  have hop:¬ (S_tmpl_Part.mk (nmOf r) [] ((mk (afOf r)).1:Int) sb).f_Op = 0:=by show ¬ ((((mk (afOf r)).1:Nat):Int) = 0); omega
  rw [T_app,T_fl,T_cons,if_neg hop]
  simp only [List.length_append,List.length_cons,List.length_nil,List.length_drop,hmk] at h1 h2 hl ⊢
  omega
theorem take_flat {α β:Type} (f:α → List β) (l:List α) (i:Nat) (h:i < l.length):(l.take (i + 1)).flatMap f = (l.take i).flatMap f ++ f l[i]:=by
 rw [List.take_succ_eq_append_getElem h,List.flatMap_append]; simp
theorem flat_take_le {α β:Type} (f:α → List β) (l:List α) (i:Nat):((l.take i).flatMap f).length ≤ (l.flatMap f).length:=by
 conv=>rhs; rw [← List.take_append_drop i l,List.flatMap_append]
 simp
theorem gatherF {α β ρ:Type} {L:Nat → List β → Int → Option ρ} (l:List α) (f:α → List β) (s0:List β) (fin:List β → ρ) (hN:l.length < 1000000000)
  (hs:∀ k i (h:i < l.length) (s:List β),s.length + (f l[i]).length ≤ s0.length + (l.flatMap f).length → L (k + 1) s (i:Int) = L k (s ++ f l[i]) (IntKind.wrap .i64 ((i:Int) + 1)))
  (he:∀ k s,L (k + 1) s (l.length:Int) = some (fin s)) (k:Nat) (hk:l.length < k):L k s0 0 = some (fin (s0 ++ l.flatMap f)):=by
 have key:∀ (k i:Nat),i ≤ l.length → l.length - i < k → L k (s0 ++ (l.take i).flatMap f) (i:Int) = some (fin (s0 ++ l.flatMap f)):=by
  intro k
  induction k with
  | zero=>intro i _ h; omega
  | succ k ih =>
   intro i h1 h2
   by_cases h:i < l.length
   ·have ht:=take_flat f l i h
    have hle:=flat_take_le f l (i + 1)
    rw [ht,List.length_append] at hle
    rw [hs k i h _ (by rw [List.length_append]; omega),wrap_s i (by omega),List.append_assoc,← ht]
    exact ih (i + 1) (by omega) (by omega)
   ·have:i = l.length:=by omega
    subst this
    rw [he,List.take_length]
 have:=key k 0 (by omega) (by omega)
 rw [List.take_zero,List.flatMap_nil,List.append_nil] at this
 exact this
theorem V_mem {d:Nat} {l:List TP} (h:V d l):∀ p ∈ l,(p.f_Op = 0 ∧ p.f_Sub = []) ∨ (d ≤ 8 ∧ ∃ op:Nat,p.f_Op = (op:Int) ∧ 1 ≤ op ∧ op ≤ 7 ∧ V (d + 1) p.f_Sub ∧ (op = 1 → p.f_Sub = [])):=by
 induction h with
 | nil d=>intro p hp; cases hp
 | text d t l ht hc h ih =>
  intro p hp
  rcases List.mem_cons.1 hp with rfl | hp
  ·exact .inl ⟨rfl,rfl⟩
  ·exact ih p hp
 | var1 d nm l hd hv hw h ih =>
  intro p hp
  rcases List.mem_cons.1 hp with rfl | hp
  ·exact .inr ⟨hd,1,rfl,Nat.le_refl _,by omega,.nil _,fun _=>rfl⟩
  ·exact ih p hp
 | var d nm op sb l hd hv hw h2 h7 hs hn h ihs ih =>
  intro p hp
  rcases List.mem_cons.1 hp with rfl | hp
  ·exact .inr ⟨hd,op,rfl,by omega,h7,hs,fun e=>by omega⟩
  ·exact ih p hp
def pc (m:Nat) (p:TP):BS:=if p.f_Op = 0 then escS p.f_Text else [36,123] ++ p.f_Name ++ mkS p.f_Op ++ T m p.f_Sub ++ [125]
theorem T_pc (m:Nat) (l:List TP):T (m + 1) l = l.flatMap (pc m):=rfl
theorem pc_le (m:Nat) {l:List TP} {p:TP} (hp:p ∈ l):(pc m p).length ≤ (T (m + 1) l).length:=by
 rw [T_pc]
 obtain ⟨i,hi,rfl⟩:=List.mem_iff_getElem.1 hp
 have:=flat_take_le (pc m) l (i + 1)
 rw [take_flat _ _ _ hi,List.length_append] at this
 omega
theorem sub_le (m:Nat) {l:List TP} {p:TP} (hp:p ∈ l) (h:p.f_Op ≠ 0):(T m p.f_Sub).length + 3 + p.f_Name.length ≤ (T (m + 1) l).length:=by
 have:=pc_le m hp
 unfold pc at this
 rw [if_neg h] at this
 simp at this
 omega
theorem V_len {d:Nat} {l:List TP} (h:V d l) (m:Nat):l.length ≤ (T (m + 1) l).length:=by
 induction h with
 | nil d=>simp
 | text d t l ht hc h ih =>
  rw [T_cons,if_pos rfl]
  have:=List.length_pos_iff.2 ht
  have:=escS_len t
  simp; omega
 | var1 d nm l hd hv hw h ih=>rw [T_cons,if_neg (by show ¬ (1:Int) = 0; decide)]; simp; omega
 | var d nm op sb l hd hv hw h2 h7 hs hn h ihs ih =>
  have hop:¬ (S_tmpl_Part.mk nm [] (op:Int) sb).f_Op = 0:=by show ¬ ((op:Int) = 0); omega
  rw [T_cons,if_neg hop]; simp; omega
theorem capS {a b:Nat} (h:a + b ≤ 1000000000):decide ((a + b) * (1 + 1) ≤ limit) = true:=decide_eq_true (by show (a + b) * (1 + 1) ≤ 140737488355328; omega)
theorem text_j2 (R:List TP → Option BS) (n m:Nat) (l:List TP) (v7:Int) (i:Nat) (h:i < l.length) (s:BS) (hs:s.length + (pc m l[i]).length ≤ 1000000)
  (hop:l[i].f_Op = 0 ∨ ∃ op:Nat,l[i].f_Op = (op:Int) ∧ 1 ≤ op ∧ op ≤ 7 ∧ (op = 1 → l[i].f_Sub = [])) (hR:l[i].f_Op ≠ 0 → R l[i].f_Sub = some (T m l[i].f_Sub)):tmpl_Text_j2 R n l v7 (i:Int) s = some (s ++ pc m l[i]):=by
 unfold tmpl_Text_j2
 rw [if_pos (in_i h),at_i h]
 generalize l[i] = p at hs hop hR
 unfold pc at hs ⊢
 by_cases h0:p.f_Op = 0
 ·rw [if_pos h0] at hs ⊢
  have hr:Lib.replaceAll p.f_Text ([36]:BS) ([36,36]:BS) = escS p.f_Text:=replaceAll_eq 36 _ _ (by decide)
  have hl:=escS_len p.f_Text
  have hc:=countB_le 36 p.f_Text
  have c1:decide (List.length p.f_Text < 4294967281 ∧ 1 ≤ List.length ([36]:List UInt8) ∧ List.length p.f_Text + Lib.countB ⟨List.toArray p.f_Text⟩ ⟨List.toArray ([36]:List UInt8)⟩ * List.length ([36,36]:List UInt8) ≤ limit) = true:=by
   refine decide_eq_true ⟨by omega,by simp,?_⟩
   show _ + _ * 2 ≤ 140737488355328
   omega
  rw [if_pos (by simp [h0]),if_pos c1,hr,if_pos (capS (by omega))]; rfl
 ·rw [if_neg h0] at hs ⊢
  obtain ⟨op,o1,o2,o3,o4⟩:=hop.resolve_left h0
  simp only [List.length_append,List.length_cons,List.length_nil] at hs
  rw [if_neg (by simpa using h0),if_pos (str_fits (by simp; omega)),if_pos (capS (by simp; omega))]
  unfold tmpl_Text_j3
  simp only [lett,marks_eq]
  by_cases h1:op = 1
  ·have e1:p.f_Op = 1:=by rw [o1,h1]; rfl
   have hm:mkS p.f_Op = []:=by rw [e1]; rfl
   rw [hm,o4 h1,T_nil,e1,if_neg (by decide),Option.bind_some,if_pos (capS (by simp; omega))]
   simp
  ·have c1:(bif decide (p.f_Op > 1) then decide (p.f_Op ≤ 7) else false) = true:=by
    rw [decide_eq_true (show p.f_Op > 1 by omega)]; simp; omega
   have c2:decide (0 ≤ p.f_Op ∧ p.f_Op < (8:Int)) = true:=decide_eq_true (by omega)
   have c3:decide (List.length marks = 8) = true:=rfl
   rw [if_pos c1,Option.bind_some,if_pos c2,if_pos c3,hR h0,Option.bind_some]
   have hmk:marks[Int.toNat p.f_Op]?.getD [] = mkS p.f_Op:=rfl
   rw [hmk,if_pos (str_fits (by omega)),if_pos (capS (by simp; omega)),Option.bind_some,if_pos (capS (by simp; omega))]
   simp
theorem Text_eq:∀ (m d n:Nat) (l:List TP),d + m = 9 → 1 ≤ d → V d l → (T (m + 1) l).length ≤ 100000 → 100002 + m ≤ n → tmpl_Text n l = some (T (m + 1) l)
 | m,d,n,l,hdm,hd,hV,hT,hn=>by
  obtain ⟨n,rfl⟩:∃ n',n = n' + 1:=⟨n - 1,by omega⟩
  have hmem:=V_mem hV
  have hlen:=V_len hV m
  show tmpl_Text_b (tmpl_Text n) n l = _
  unfold tmpl_Text_b
  have:=gatherF (L:=fun k s i=>tmpl_Text_l1 (tmpl_Text n) n l (l.length:Int) k i s) l (pc m) [] id (by omega)
   (fun k i h s hb=>by
    have hp:=hmem l[i] (List.getElem_mem h)
    rw [← T_pc] at hb
    rw [tmpl_Text_l1,if_pos (lt_i h),text_j2 (tmpl_Text n) n m l _ i h s (by simp at hb; omega) (hp.elim (fun h=>.inl h.1) fun h=>.inr (let ⟨op,a,b,c,_,e⟩:=h.2; ⟨op,a,b,c,e⟩)) (fun h0=>by
     obtain ⟨h8,op,o1,o2,o3,o4,o5⟩:=hp.resolve_left (fun h=>h0 h.1)
     obtain ⟨m,rfl⟩:∃ m',m = m' + 1:=⟨m - 1,by omega⟩
     have:=sub_le (m + 1) (List.getElem_mem h) h0
     exact Text_eq m (d + 1) n _ (by omega) (by omega) o4 (by omega) (by omega)),Option.bind_some])
   (fun k s=>by rw [tmpl_Text_l1,nlt_n]; rfl) n (by omega)
  rw [List.nil_append,← T_pc] at this
  have this:tmpl_Text_l1 (tmpl_Text n) n l (l.length:Int) n 0 [] = some (T (m + 1) l):=this
  rw [this]; rfl
 termination_by m=>m
def nms:Nat → List TP → List BS
 | 0,_=>[]
 | d + 1,l=>l.flatMap fun p=>(if p.f_Op = 0 then [] else [p.f_Name]) ++ nms d p.f_Sub
def nm1 (m:Nat) (p:TP):List BS:=(if p.f_Op = 0 then [] else [p.f_Name]) ++ nms m p.f_Sub
def nm2 (m:Nat) (p:TP):List BS:=(if p.f_Op = 0 then [] else [p.f_Name]) ++ srt (nms m p.f_Sub)
theorem nms_eq (m:Nat) (l:List TP):nms (m + 1) l = l.flatMap (nm1 m):=rfl
theorem nms_nil (m:Nat):nms m [] = []:=by cases m <;> rfl
theorem nms_len {d:Nat} {l:List TP} (h:V d l):∀ m,(nms (m + 1) l).length ≤ (T (m + 1) l).length:=by
 induction h with
 | nil d=>intro m; simp [nms_eq]
 | text d t l ht hc h ih =>
  intro m
  have:=ih m
  have e:nms (m + 1) (S_tmpl_Part.mk [] t 0 [] :: l) = nms (m + 1) l:=by rw [nms_eq,List.flatMap_cons,nm1,if_pos rfl]; simp only; rw [nms_nil]; rfl
  rw [e,T_cons]; simp; omega
 | var1 d nm l hd hv hw h ih =>
  intro m
  have:=ih m
  have e:nms (m + 1) (S_tmpl_Part.mk nm [] 1 [] :: l) = nm :: nms (m + 1) l:=by rw [nms_eq,List.flatMap_cons,nm1,if_neg (by show ¬ (1:Int) = 0; decide)]; simp only; rw [nms_nil]; rfl
  rw [e,T_cons,if_neg (by show ¬ (1:Int) = 0; decide)]; simp; omega
 | var d nm op sb l hd hv hw h2 h7 hs hn h ihs ih =>
  intro m
  have h1:=ih m
  have hop:¬ (S_tmpl_Part.mk nm [] (op:Int) sb).f_Op = 0:=by show ¬ ((op:Int) = 0); omega
  have e:nms (m + 1) (S_tmpl_Part.mk nm [] (op:Int) sb :: l) = nm :: (nms m sb ++ nms (m + 1) l):=by rw [nms_eq,List.flatMap_cons,nm1,if_neg hop]; rfl
  have h3:(nms m sb).length ≤ (T m sb).length:=by
   cases m with
   | zero=>exact Nat.zero_le _
   | succ m=>exact ihs m
  rw [e,T_cons,if_neg hop]; simp; omega
theorem cap17 {α:Type} {a b:List α} (h:a.length + b.length ≤ 1000000):decide ((List.length a + List.length b) * (16 + 1) ≤ limit) = true:=cap_add (by omega)
theorem nms_mem (m:Nat) (l:List TP):∀ x,x ∈ l.flatMap (nm2 m) ↔ x ∈ l.flatMap (nm1 m):=by
 intro x
 simp only [List.mem_flatMap,nm1,nm2,List.mem_append,mem_srt]
theorem nm2_len (m:Nat) (l:List TP):(l.flatMap (nm2 m)).length ≤ (l.flatMap (nm1 m)).length:=by
 induction l with
 | nil=>simp
 | cons p l ih =>
  have:=srt_length_le (nms m p.f_Sub)
  simp only [List.flatMap_cons,List.length_append,nm1,nm2] at ih ⊢
  omega
theorem Names_nil (n:Nat):tmpl_Names (n + 2) [] = some []:=by
 show tmpl_Names_b (tmpl_Names (n + 1)) (n + 1) [] = _
 unfold tmpl_Names_b
 rw [tmpl_Names_l1]
 rw [if_neg (by simp),Option.bind_some,name_Sorted_eq (n + 1) [] (by simp)]; rfl
theorem Names_eq:∀ (m d n:Nat) (l:List TP),d + m = 9 → 1 ≤ d → V d l → (T (m + 1) l).length ≤ 50000 → 100002 + m ≤ n → tmpl_Names n l = some (srt (nms (m + 1) l))
 | m,d,n,l,hdm,hd,hV,hT,hn=>by
  obtain ⟨n,rfl⟩:∃ n',n = n' + 1:=⟨n - 1,by omega⟩
  have hmem:=V_mem hV
  have hlen:=V_len hV m
  have hnl:=nms_len hV m
  have h2l:=nm2_len m l
  rw [← nms_eq] at h2l
  show tmpl_Names_b (tmpl_Names n) n l = _
  unfold tmpl_Names_b
  have:=gatherF (L:=tmpl_Names_l1 (tmpl_Names n) n l (l.length:Int)) l (nm2 m) [] id (by omega)
   (fun k i h s hb=>by
    have hp:=hmem l[i] (List.getElem_mem h)
    have hsub:tmpl_Names n l[i].f_Sub = some (srt (nms m l[i].f_Sub)):=by
     by_cases h0:l[i].f_Op = 0
     ·rcases hp with h | ⟨_,op,o1,o2,_⟩
      ·rw [h.2,nms_nil]
       obtain ⟨n,rfl⟩:∃ n',n = n' + 2:=⟨n - 2,by omega⟩
       exact Names_nil n
      ·omega
     ·obtain ⟨h8,op,o1,o2,o3,o4,o5⟩:=hp.resolve_left (fun h=>h0 h.1)
      obtain ⟨m,rfl⟩:∃ m',m = m' + 1:=⟨m - 1,by omega⟩
      have:=sub_le (m + 1) (List.getElem_mem h) h0
      exact Names_eq m (d + 1) n _ (by omega) (by omega) o4 (by omega) (by omega)
    rw [tmpl_Names_l1,if_pos (lt_i h)]
    unfold tmpl_Names_j2 tmpl_Names_j3
    rw [if_pos (in_i h),at_i h,hsub]
    have hb2:s.length + (nm2 m l[i]).length ≤ 50000:=by simp only [List.length_nil] at hb; omega
    clear hb
    have hb:=hb2
    unfold nm2 at hb ⊢
    by_cases h0:l[i].f_Op = 0
    ·rw [if_pos h0] at hb ⊢
     simp only [List.length_append,List.length_nil] at hb
     rw [if_neg (by simp [h0]),Option.bind_some,Option.bind_some,if_pos (cap17 (by omega)),Option.bind_some]; rfl
    ·rw [if_neg h0] at hb ⊢
     simp only [List.length_append,List.length_nil,List.length_cons] at hb
     rw [if_pos (by simpa using h0),if_pos (cap17 (by simp only [List.length_append,List.length_cons,List.length_nil]; omega)),Option.bind_some,Option.bind_some,if_pos (cap17 (by simp only [List.length_append,List.length_cons,List.length_nil]; omega)),Option.bind_some]
     simp)
   (fun k s=>by rw [tmpl_Names_l1,nlt_n]; rfl) n (by omega)
  rw [List.nil_append] at this
  have this:tmpl_Names_l1 (tmpl_Names n) n l (l.length:Int) n [] 0 = some (l.flatMap (nm2 m)):=this
  rw [this,Option.bind_some,name_Sorted_eq n _ (by omega),Option.bind_some,srt_ext (nms_mem m l),← nms_eq]
 termination_by m=>m
end Go.Proofs.YtibgdilkodjojaaDoor.M
