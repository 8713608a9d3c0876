import Derived.Test.YtibgdilkodjojaaDoorQP14
set_option linter.all false
namespace Go.Proofs.YtibgdilkodjojaaDoor.M
open Go Go.Proofs.YtibgdilkodjojaaDoor.RX Go.Proofs.YtibgdilkodjojaaDoor.PL
set_option maxRecDepth 100000
def escS (t:BS):BS:=t.flatMap (PL.sub 36 [36,36])
def mkS (op:Int):BS:=marks[op.toNat]?.getD []
def T:Nat → List TP → BS
 | 0,_=>[]
 | d + 1,l=>l.flatMap fun p=>if p.f_Op = 0 then escS p.f_Text else [36,123] ++ p.f_Name ++ mkS p.f_Op ++ T d p.f_Sub ++ [125]
def N:BS → List TP → List TP
 | w,[]=>fl w
 | w,p :: l=>if p.f_Op = 0 then N (w ++ p.f_Text) l else fl w ++ p :: N [] l
inductive V:Nat → List TP → Prop
 | nil (d:Nat):V d []
 | text (d:Nat) (t:BS) (l:List TP) (ht:t ≠ []) (hc:1 < d → (125:UInt8) ∉ t) (h:V d l):V d (S_tmpl_Part.mk [] t 0 [] :: l)
 | var1 (d:Nat) (nm:BS) (l:List TP) (hd:d ≤ 8) (hv:varB nm = true) (hw:∀ c ∈ nm,wordB c = true) (h:V d l):V d (S_tmpl_Part.mk nm [] 1 [] :: l)
 | var (d:Nat) (nm:BS) (op:Nat) (sb l:List TP) (hd:d ≤ 8) (hv:varB nm = true) (hw:∀ c ∈ nm,wordB c = true) (h2:2 ≤ op) (h7:op ≤ 7) (hs:V (d + 1) sb) (hn:N [] sb = sb) (h:V d l):V d (S_tmpl_Part.mk nm [] (op:Int) sb :: l)
theorem N_text (w t:BS) (l:List TP):N w (S_tmpl_Part.mk [] t 0 [] :: l) = N (w ++ t) l:=by rw [N,if_pos rfl]
theorem N_var (w:BS) (p:TP) (l:List TP) (h:p.f_Op ≠ 0):N w (p :: l) = fl w ++ p :: N [] l:=by rw [N,if_neg h]
theorem N_fl (v w:BS) (l:List TP):N v (fl w ++ l) = N (v ++ w) l:=by
 unfold fl
 by_cases h:w = []
 ·subst h; simp
 ·rw [if_neg h,List.singleton_append,N_text]
theorem N_N:∀ (k:List TP) (v w:BS),N v (N w k) = N (v ++ w) k
 | [],v,w=>by
  have:=N_fl v w []
  rw [List.append_nil] at this
  rw [show N w [] = fl w from rfl,this]
 | p :: k,v,w=>by
  by_cases h:p.f_Op = 0
  ·rw [N,if_pos h,N,if_pos h,N_N k,List.append_assoc]
  ·rw [N_var w p k h,N_var _ p k h,N_fl,N_var _ p _ h,N_N k]; rfl
theorem V_fl {d:Nat} {w:BS} {l:List TP} (hw:1 < d → (125:UInt8) ∉ w) (h:V d l):V d (fl w ++ l):=by
 unfold fl
 by_cases e:w = []
 ·rw [if_pos e]; exact h
 ·rw [if_neg e]; exact .text d w l e hw h
theorem V_N {d:Nat} {k:List TP} (h:V d k):∀ w:BS,(1 < d → (125:UInt8) ∉ w) → V d (N w k):=by
 induction h with
 | nil d=>intro w hw; have:=V_fl hw (.nil d); rwa [List.append_nil] at this
 | text d t l ht hc h ih =>
  intro w hw
  rw [N_text]
  exact ih _ fun h1 hm=>by rcases List.mem_append.1 hm with h2 | h2; exact hw h1 h2; exact hc h1 h2
 | var1 d nm l hd hv hwd h ih =>
  intro w hw
  rw [N_var _ _ _ (by show ¬ (1:Int) = 0; decide)]
  exact V_fl hw (.var1 d nm _ hd hv hwd (ih [] (by simp)))
 | var d nm op sb l hd hv hwd h2 h7 hs hn h ihs ih =>
  intro w hw
  rw [N_var _ _ _ (by show (op:Int) ≠ 0; omega)]
  exact V_fl hw (.var d nm op sb _ hd hv hwd h2 h7 hs hn (ih [] (by simp)))
theorem nm_word (r:BS):∀ c ∈ nmOf r,wordB c = true:=fun c hc=>by
 have:=List.all_takeWhile (p:=wordB) (l:=r)
 exact List.all_eq_true.1 this c hc
theorem Ps_V {d:Nat} {r w:BS} {l:List TP} {r':BS} (h:Ps d r w l r'):1 ≤ d → ∃ k,V d k ∧ l = N w k:=by
 induction h with
 | done d r w h=>intro _; exact ⟨[],.nil d,rfl⟩
 | char d c r w l r' h1 h2 h ih =>
  intro hd
  obtain ⟨k,k1,k2⟩:=ih hd
  exact ⟨S_tmpl_Part.mk [] [c] 0 [] :: k,.text d [c] k (by simp) (fun h3 hm=>h2 ⟨h3,(List.mem_singleton.1 hm).symm⟩) k1,by rw [N_text]; exact k2⟩
 | dollar d r w l r' h ih =>
  intro hd
  obtain ⟨k,k1,k2⟩:=ih hd
  exact ⟨S_tmpl_Part.mk [] [36] 0 [] :: k,.text d [36] k (by simp) (fun _=>by decide) k1,by rw [N_text]; exact k2⟩
 | plain d r w l r' hd8 h0 h1 hv h ih =>
  intro hd
  obtain ⟨k,k1,k2⟩:=ih hd
  exact ⟨_ :: k,.var1 d (nmOf r) k hd8 hv (nm_word r) k1,by rw [N_var _ _ _ (by show ¬ (1:Int) = 0; decide),k2]⟩
 | one d r w r1 l r' hd8 hv he h ih =>
  intro hd
  obtain ⟨k,k1,k2⟩:=ih hd
  exact ⟨_ :: k,.var1 d (nmOf r) k hd8 hv (nm_word r) k1,by rw [N_var _ _ _ (by show ¬ (1:Int) = 0; decide),k2]⟩
 | sub d r w sb r1 l r' hd8 hv hm hs h ihs ih =>
  intro hd
  obtain ⟨k,k1,k2⟩:=ih hd
  obtain ⟨ks,s1,s2⟩:=ihs (by omega)
  obtain ⟨m1,m2,m3,m4,m5⟩:=mk_len (afOf r)
  refine ⟨_ :: k,.var d (nmOf r) (mk (afOf r)).1 sb k hd8 hv (nm_word r) (by omega) m2 ?_ ?_ k1,by rw [N_var _ _ _ (by show (((mk (afOf r)).1:Nat):Int) ≠ 0; omega),k2]⟩
  ·rw [s2]; exact V_N s1 [] (by simp)
  ·rw [s2,N_N]; rfl
theorem Ps_form {s:BS} {l:List TP} (h:Ps 1 s [] l []):V 1 l ∧ N [] l = l:=by
 obtain ⟨k,k1,k2⟩:=Ps_V h (by omega)
 exact ⟨by rw [k2]; exact V_N k1 [] (by simp),by rw [k2,N_N]; rfl⟩
theorem T_nil (d:Nat):T d [] = []:=by cases d <;> rfl
theorem T_cons (d:Nat) (p:TP) (l:List TP):T (d + 1) (p :: l) = (if p.f_Op = 0 then escS p.f_Text else [36,123] ++ p.f_Name ++ mkS p.f_Op ++ T d p.f_Sub ++ [125]) ++ T (d + 1) l:=by
 show List.flatMap _ (p :: l) = _
 rw [List.flatMap_cons]; rfl
theorem T_app (d:Nat) (k l:List TP):T (d + 1) (k ++ l) = T (d + 1) k ++ T (d + 1) l:=by unfold T; rw [List.flatMap_append]
theorem T_fl (d:Nat) (w:BS):T (d + 1) (fl w) = escS w:=by
 unfold fl
 by_cases h:w = []
 ·subst h; rfl
 ·rw [if_neg h,T_cons,if_pos rfl,T_nil,List.append_nil]
theorem escS_cons (c:UInt8) (t:BS):escS (c :: t) = if c = 36 then 36 :: 36 :: escS t else c :: escS t:=by
 unfold escS
 rw [List.flatMap_cons]
 unfold PL.sub
 by_cases h:c = 36
 ·simp [h]
 ·simp [h]
theorem escS_len:∀ w:BS,w.length ≤ (escS w).length ∧ (escS w).length ≤ 2 * w.length
 | []=>⟨Nat.le_refl _,Nat.le_refl _⟩
 | c :: w=>by
  obtain ⟨h1,h2⟩:=escS_len w
  rw [escS_cons]
  split
  ·simp; omega
  ·simp; omega
theorem Ps_len {d:Nat} {r w:BS} {l:List TP} {r':BS} (h:Ps d r w l r'):1 ≤ d → d ≤ 9 → r'.length ≤ r.length ∧ (T (10 - d) l).length + 3 * r'.length ≤ 3 * r.length + 2 * w.length:=by
 induction h with
 | done d r w h =>
  intro _ hd
  obtain ⟨m,hm⟩:∃ m,10 - d = m + 1:=⟨9 - d,by omega⟩
  rw [hm,T_fl]
  have:=escS_len w
  omega
 | char d c r w l r' h1 h2 h ih=>intro hd1 hd; have:=ih hd1 hd; simp at this ⊢; omega
 | dollar d r w l r' h ih=>intro hd1 hd; have:=ih hd1 hd; simp at this ⊢; omega
 | plain d r w l r' hd8 h0 h1 hv h ih =>
  intro hd1 hd
  have h:=ih hd1 hd
  obtain ⟨m,hm⟩:∃ m,10 - d = m + 1:=⟨9 - d,by omega⟩
  rw [hm] at h ⊢
  have hl:=congrArg List.length (nm_af r)
  have hne:=List.length_pos_iff.2 (varB_ne hv)
  have he:=escS_len w
  rw [T_app,T_fl,T_cons,if_neg (by show ¬ (1:Int) = 0; decide),T_nil,show mkS 1 = [] from rfl]
  simp at h hl ⊢
  omega
 | one d r w r1 l r' hd8 hv hf h ih =>
  intro hd1 hd
  have h:=ih hd1 hd
  obtain ⟨m,hm⟩:∃ m,10 - d = m + 1:=⟨9 - d,by omega⟩
  rw [hm] at h ⊢
  have hl:=congrArg List.length (nm_af r)
  rw [hf] at hl
  have he:=escS_len w
  rw [T_app,T_fl,T_cons,if_neg (by show ¬ (1:Int) = 0; decide),T_nil,show mkS 1 = [] from rfl]
  simp at h hl ⊢
  omega
 | sub d r w sb r1 l r' hd8 hv ho hs h ihs ih =>
  intro hd1 hd
  have h1:=ih hd1 hd
  have h2:=ihs (by omega) (by omega)
  obtain ⟨m,hm⟩:∃ m,10 - d = m + 1:=⟨9 - d,by omega⟩
  rw [hm] at h1 ⊢
  rw [show 10 - (d + 1) = m by omega] at h2
  have hl:=congrArg List.length (nm_af r)
  have he:=escS_len w
  obtain ⟨m1,m2,m3,m4,m5⟩:=mk_len (afOf r)
  have hmk:(mkS (((mk (afOf r)).1:Nat):Int)).length = (mk (afOf r)).2:=by
   have:∀ x:BS,(mkS (((mk x).1:Nat):Int)).length = (mk x).2:=by
    intro x
    cases x with
    | nil=>rfl
    | cons c x =>
     cases x with
     | nil =>
      simp only [mk]
      repeat' split
      all_goals rfl
     | cons e x =>
      simp only [mk]
      repeat' split
      all_goals rfl
   exact this _
  have hop:¬ (S_tmpl_Part.mk (nmOf r) [] ((mk (afOf r)).1:Int) sb).f_Op = 0:=by show ¬ ((((mk (afOf r)).1:Nat):Int) = 0); omega
  rw [T_app,T_fl,T_cons,if_neg hop]
  simp only [List.length_append,List.length_cons,List.length_nil,List.length_drop,hmk] at h1 h2 hl ⊢
  omega
theorem take_flat {α β:Type} (f:α → List β) (l:List α) (i:Nat) (h:i < l.length):(l.take (i + 1)).flatMap f = (l.take i).flatMap f ++ f l[i]:=by
 rw [List.take_succ_eq_append_getElem h,List.flatMap_append]; simp
theorem flat_take_le {α β:Type} (f:α → List β) (l:List α) (i:Nat):((l.take i).flatMap f).length ≤ (l.flatMap f).length:=by
 conv=>rhs; rw [← List.take_append_drop i l,List.flatMap_append]
 simp
theorem gatherF {α β ρ:Type} {L:Nat → List β → Int → Option ρ} (l:List α) (f:α → List β) (s0:List β) (fin:List β → ρ) (hN:l.length < 1000000000)
  (hs:∀ k i (h:i < l.length) (s:List β),s.length + (f l[i]).length ≤ s0.length + (l.flatMap f).length → L (k + 1) s (i:Int) = L k (s ++ f l[i]) (IntKind.wrap .i64 ((i:Int) + 1)))
  (he:∀ k s,L (k + 1) s (l.length:Int) = some (fin s)) (k:Nat) (hk:l.length < k):L k s0 0 = some (fin (s0 ++ l.flatMap f)):=by
 have key:∀ (k i:Nat),i ≤ l.length → l.length - i < k → L k (s0 ++ (l.take i).flatMap f) (i:Int) = some (fin (s0 ++ l.flatMap f)):=by
  intro k
  induction k with
  | zero=>intro i _ h; omega
  | succ k ih =>
   intro i h1 h2
   by_cases h:i < l.length
   ·have ht:=take_flat f l i h
    have hle:=flat_take_le f l (i + 1)
    rw [ht,List.length_append] at hle
    rw [hs k i h _ (by rw [List.length_append]; omega),wrap_s i (by omega),List.append_assoc,← ht]
    exact ih (i + 1) (by omega) (by omega)
   ·have:i = l.length:=by omega
    subst this
    rw [he,List.take_length]
 have:=key k 0 (by omega) (by omega)
 rw [List.take_zero,List.flatMap_nil,List.append_nil] at this
 exact this
theorem V_mem {d:Nat} {l:List TP} (h:V d l):∀ p ∈ l,(p.f_Op = 0 ∧ p.f_Sub = []) ∨ (d ≤ 8 ∧ ∃ op:Nat,p.f_Op = (op:Int) ∧ 1 ≤ op ∧ op ≤ 7 ∧ V (d + 1) p.f_Sub ∧ (op = 1 → p.f_Sub = [])):=by
 induction h with
 | nil d=>intro p hp; cases hp
 | text d t l ht hc h ih =>
  intro p hp
  rcases List.mem_cons.1 hp with rfl | hp
  ·exact .inl ⟨rfl,rfl⟩
  ·exact ih p hp
 | var1 d nm l hd hv hw h ih =>
  intro p hp
  rcases List.mem_cons.1 hp with rfl | hp
  ·exact .inr ⟨hd,1,rfl,Nat.le_refl _,by omega,.nil _,fun _=>rfl⟩
  ·exact ih p hp
 | var d nm op sb l hd hv hw h2 h7 hs hn h ihs ih =>
  intro p hp
  rcases List.mem_cons.1 hp with rfl | hp
  ·exact .inr ⟨hd,op,rfl,by omega,h7,hs,fun e=>by omega⟩
  ·exact ih p hp
def pc (m:Nat) (p:TP):BS:=if p.f_Op = 0 then escS p.f_Text else [36,123] ++ p.f_Name ++ mkS p.f_Op ++ T m p.f_Sub ++ [125]
theorem T_pc (m:Nat) (l:List TP):T (m + 1) l = l.flatMap (pc m):=rfl
theorem pc_le (m:Nat) {l:List TP} {p:TP} (hp:p ∈ l):(pc m p).length ≤ (T (m + 1) l).length:=by
 rw [T_pc]
 obtain ⟨i,hi,rfl⟩:=List.mem_iff_getElem.1 hp
 have:=flat_take_le (pc m) l (i + 1)
 rw [take_flat _ _ _ hi,List.length_append] at this
 omega
theorem sub_le (m:Nat) {l:List TP} {p:TP} (hp:p ∈ l) (h:p.f_Op ≠ 0):(T m p.f_Sub).length + 3 + p.f_Name.length ≤ (T (m + 1) l).length:=by
 have:=pc_le m hp
 unfold pc at this
 rw [if_neg h] at this
 simp at this
 omega
theorem V_len {d:Nat} {l:List TP} (h:V d l) (m:Nat):l.length ≤ (T (m + 1) l).length:=by
 induction h with
 | nil d=>simp
 | text d t l ht hc h ih =>
  rw [T_cons,if_pos rfl]
  have:=List.length_pos_iff.2 ht
  have:=escS_len t
  simp; omega
 | var1 d nm l hd hv hw h ih=>rw [T_cons,if_neg (by show ¬ (1:Int) = 0; decide)]; simp; omega
 | var d nm op sb l hd hv hw h2 h7 hs hn h ihs ih =>
  have hop:¬ (S_tmpl_Part.mk nm [] (op:Int) sb).f_Op = 0:=by show ¬ ((op:Int) = 0); omega
  rw [T_cons,if_neg hop]; simp; omega
theorem capS {a b:Nat} (h:a + b ≤ 1000000000):decide ((a + b) * (1 + 1) ≤ limit) = true:=decide_eq_true (by show (a + b) * (1 + 1) ≤ 140737488355328; omega)
theorem text_j2 (R:List TP → Option BS) (n m:Nat) (l:List TP) (v7:Int) (i:Nat) (h:i < l.length) (s:BS) (hs:s.length + (pc m l[i]).length ≤ 1000000)
  (hop:l[i].f_Op = 0 ∨ ∃ op:Nat,l[i].f_Op = (op:Int) ∧ 1 ≤ op ∧ op ≤ 7 ∧ (op = 1 → l[i].f_Sub = [])) (hR:l[i].f_Op ≠ 0 → R l[i].f_Sub = some (T m l[i].f_Sub)):tmpl_Text_j2 R n l v7 (i:Int) s = some (s ++ pc m l[i]):=by
 unfold tmpl_Text_j2
 rw [if_pos (in_i h),at_i h]
 generalize l[i] = p at hs hop hR
 unfold pc at hs ⊢
 by_cases h0:p.f_Op = 0
 ·rw [if_pos h0] at hs ⊢
  have hr:Lib.replaceAll p.f_Text ([36]:BS) ([36,36]:BS) = escS p.f_Text:=replaceAll_eq 36 _ _ (by decide)
  have hl:=escS_len p.f_Text
  have hc:=countB_le 36 p.f_Text
  have c1:decide (List.length p.f_Text < 4294967281 ∧ 1 ≤ List.length ([36]:List UInt8) ∧ List.length p.f_Text + Lib.countB ⟨List.toArray p.f_Text⟩ ⟨List.toArray ([36]:List UInt8)⟩ * List.length ([36,36]:List UInt8) ≤ limit) = true:=by
   refine decide_eq_true ⟨by omega,by simp,?_⟩
   show _ + _ * 2 ≤ 140737488355328
   omega
  rw [if_pos (by simp [h0]),if_pos c1,hr,if_pos (capS (by omega))]; rfl
 ·rw [if_neg h0] at hs ⊢
  obtain ⟨op,o1,o2,o3,o4⟩:=hop.resolve_left h0
  simp only [List.length_append,List.length_cons,List.length_nil] at hs
  rw [if_neg (by simpa using h0),if_pos (str_fits (by simp; omega)),if_pos (capS (by simp; omega))]
  unfold tmpl_Text_j3
  simp only [lett,marks_eq]
  by_cases h1:op = 1
  ·have e1:p.f_Op = 1:=by rw [o1,h1]; rfl
   have hm:mkS p.f_Op = []:=by rw [e1]; rfl
   rw [hm,o4 h1,T_nil,e1,if_neg (by decide),Option.bind_some,if_pos (capS (by simp; omega))]
   simp
  ·have c1:(bif decide (p.f_Op > 1) then decide (p.f_Op ≤ 7) else false) = true:=by
    rw [decide_eq_true (show p.f_Op > 1 by omega)]; simp; omega
   have c2:decide (0 ≤ p.f_Op ∧ p.f_Op < (8:Int)) = true:=decide_eq_true (by omega)
   have c3:decide (List.length marks = 8) = true:=rfl
   rw [if_pos c1,Option.bind_some,if_pos c2,if_pos c3,hR h0,Option.bind_some]
   have hmk:marks[Int.toNat p.f_Op]?.getD [] = mkS p.f_Op:=rfl
   rw [hmk,if_pos (str_fits (by omega)),if_pos (capS (by simp; omega)),Option.bind_some,if_pos (capS (by simp; omega))]
   simp
theorem Text_eq:∀ (m d n:Nat) (l:List TP),d + m = 9 → 1 ≤ d → V d l → (T (m + 1) l).length ≤ 100000 → 100002 + m ≤ n → tmpl_Text n l = some (T (m + 1) l)
 | m,d,n,l,hdm,hd,hV,hT,hn=>by
  obtain ⟨n,rfl⟩:∃ n',n = n' + 1:=⟨n - 1,by omega⟩
  have hmem:=V_mem hV
  have hlen:=V_len hV m
  show tmpl_Text_b (tmpl_Text n) n l = _
  unfold tmpl_Text_b
  have:=gatherF (L:=fun k s i=>tmpl_Text_l1 (tmpl_Text n) n l (l.length:Int) k i s) l (pc m) [] id (by omega)
   (fun k i h s hb=>by
    have hp:=hmem l[i] (List.getElem_mem h)
    rw [← T_pc] at hb
    rw [tmpl_Text_l1,if_pos (lt_i h),text_j2 (tmpl_Text n) n m l _ i h s (by simp at hb; omega) (hp.elim (fun h=>.inl h.1) fun h=>.inr (let ⟨op,a,b,c,_,e⟩:=h.2; ⟨op,a,b,c,e⟩)) (fun h0=>by
     obtain ⟨h8,op,o1,o2,o3,o4,o5⟩:=hp.resolve_left (fun h=>h0 h.1)
     obtain ⟨m,rfl⟩:∃ m',m = m' + 1:=⟨m - 1,by omega⟩
     have:=sub_le (m + 1) (List.getElem_mem h) h0
     exact Text_eq m (d + 1) n _ (by omega) (by omega) o4 (by omega) (by omega)),Option.bind_some])
   (fun k s=>by rw [tmpl_Text_l1,nlt_n]; rfl) n (by omega)
  rw [List.nil_append,← T_pc] at this
  have this:tmpl_Text_l1 (tmpl_Text n) n l (l.length:Int) n 0 [] = some (T (m + 1) l):=this
  rw [this]; rfl
 termination_by m=>m
abbrev RP:=S_ref13_Part
def Tk:Nat → List TP → List RP
 | 0,_=>[]
 | d + 1,l=>l.map fun p=>S_ref13_Part.mk p.f_Name p.f_Text p.f_Op (Tk d p.f_Sub)
def tk (m:Nat) (p:TP):RP:=S_ref13_Part.mk p.f_Name p.f_Text p.f_Op (Tk m p.f_Sub)
theorem Tk_map (m:Nat) (l:List TP):Tk (m + 1) l = l.map (tk m):=rfl
theorem Tk_nil (m:Nat):Tk m [] = []:=by cases m <;> rfl
theorem Tk_at (m:Nat) (l:List TP) (i:Nat) (h:i < l.length) (h':i < (Tk (m + 1) l).length):(Tk (m + 1) l)[i] = tk m l[i]:=by simp [Tk_map]
theorem Tk_len (m:Nat) (l:List TP):(Tk (m + 1) l).length = l.length:=by simp [Tk_map]
theorem rtext_l3 (R:List RP → Option BS) (n:Nat) (v0:List RP) (v4:Int) (b:RP) (s0:BS) (hn:100000 ≤ n) (hb:b.f_Text.length ≤ 90000) (hs:s0.length ≤ 1000000):ref13_Text_l3 R n v0 v4 b n s0 0 = some (s0 ++ escS b.f_Text):=by
 have hel:=(escS_len b.f_Text).2
 have:=gatherF (L:=ref13_Text_l3 R n v0 v4 b) b.f_Text (PL.sub 36 [36,36]) s0 id (by omega)
  (fun k i h s hl=>by
   have hl:s.length + (PL.sub 36 [36,36] b.f_Text[i]).length ≤ s0.length + (escS b.f_Text).length:=hl
   have hw:=wrap_s i (by omega)
   rw [ref13_Text_l3,if_pos (lt_i h)]
   unfold ref13_Text_j4 ref13_Text_j5
   rw [if_pos (in_i h),at_i h,b36,hw]
   unfold PL.sub at hl ⊢
   by_cases e:b.f_Text[i] = 36
   ·rw [if_pos e] at hl ⊢
    simp only [List.length_cons,List.length_nil] at hl
    rw [if_pos (decide_eq_true e),if_pos (str_fits (by simp; omega)),Option.bind_some,if_pos (le_i (by omega)),if_pos (le_ij (by omega)),sub1 h,if_pos (str_fits (by simp; omega)),Option.bind_some,e]
    simp
   ·rw [if_neg e] at hl ⊢
    simp only [List.length_cons,List.length_nil] at hl
    rw [if_neg (by simpa using e),Option.bind_some,if_pos (le_i (by omega)),if_pos (le_ij (by omega)),sub1 h,if_pos (str_fits (by simp; omega)),Option.bind_some])
  (fun k s=>by rw [ref13_Text_l3,nlt_n]; rfl) n (by omega)
 exact this
theorem rmark_eq (n:Nat) (op:Int) (h0:0 ≤ op) (h7:op ≤ 7):ref13_mark n op = some (mkS op):=by
 unfold ref13_mark
 rw [decide_eq_false (by omega:¬ op < 0),decide_eq_false (by omega:¬ op > 7),if_neg (by decide),if_pos (decide_eq_true (by show 0 ≤ op ∧ op < ((8:Nat):Int); omega))]
 rfl
theorem rtext_j2 (R:List RP → Option BS) (n m:Nat) (l:List TP) (i:Nat) (h:i < l.length) (s:BS) (hn:100000 ≤ n) (hs:s.length + (pc m l[i]).length ≤ 80000)
  (hop:l[i].f_Op = 0 ∨ ∃ op:Nat,l[i].f_Op = (op:Int) ∧ 1 ≤ op ∧ op ≤ 7 ∧ (op = 1 → l[i].f_Sub = [])) (hR:l[i].f_Op ≠ 0 → R (Tk m l[i].f_Sub) = some (T m l[i].f_Sub)):ref13_Text_j2 R n (Tk (m + 1) l) s (i:Int) = some (s ++ pc m l[i]):=by
 have h':i < (Tk (m + 1) l).length:=by rw [Tk_len]; exact h
 unfold ref13_Text_j2
 rw [if_pos (in_i h'),at_i h',Tk_at m l i h h']
 generalize l[i] = p at hs hop hR
 unfold tk
 simp only
 unfold pc at hs ⊢
 by_cases h0:p.f_Op = 0
 ·rw [if_pos h0] at hs ⊢
  have hl:=escS_len p.f_Text
  rw [if_pos (by simp [h0]),rtext_l3 R n _ _ _ s hn (by simp only; omega) (by omega)]; rfl
 ·rw [if_neg h0] at hs ⊢
  obtain ⟨op,o1,o2,o3,o4⟩:=hop.resolve_left h0
  simp only [List.length_append,List.length_cons,List.length_nil] at hs
  rw [if_neg (by simpa using h0),if_pos (str_fits (by simp; omega)),if_pos (str_fits (by simp; omega)),if_pos (str_fits (by simp; omega)),rmark_eq n _ (by omega) (by omega),Option.bind_some,if_pos (str_fits (by simp; omega))]
  unfold ref13_Text_j6
  by_cases h1:op = 1
  ·have e1:p.f_Op = 1:=by rw [o1,h1]; rfl
   have hm:mkS p.f_Op = []:=by rw [e1]; rfl
   rw [hm,o4 h1,T_nil,e1,if_neg (show ¬ decide ((1:Int) > 1) = true by decide),Option.bind_some,if_pos (str_fits (by simp; omega))]
   simp
  ·rw [if_pos (decide_eq_true (by omega)),hR h0,Option.bind_some,if_pos (str_fits (by simp; omega)),Option.bind_some,if_pos (str_fits (by simp; omega))]
   simp
theorem rText_eq:∀ (m d n:Nat) (l:List TP),d + m = 9 → 1 ≤ d → V d l → (T (m + 1) l).length ≤ 50000 → 100002 + m ≤ n → ref13_Text n (Tk (m + 1) l) = some (T (m + 1) l)
 | m,d,n,l,hdm,hd,hV,hT,hn=>by
  obtain ⟨n,rfl⟩:∃ n',n = n' + 1:=⟨n - 1,by omega⟩
  have hmem:=V_mem hV
  have hlen:=V_len hV m
  show ref13_Text_b (ref13_Text n) n _ = _
  unfold ref13_Text_b
  have:=gatherF (L:=ref13_Text_l1 (ref13_Text n) n (Tk (m + 1) l)) l (pc m) [] id (by omega)
   (fun k i h s hb=>by
    have hp:=hmem l[i] (List.getElem_mem h)
    have h':i < (Tk (m + 1) l).length:=by rw [Tk_len]; exact h
    rw [← T_pc] at hb
    rw [ref13_Text_l1,if_pos (lt_i h'),rtext_j2 (ref13_Text n) n m l i h s (by omega) (by simp at hb; omega) (hp.elim (fun h=>.inl h.1) fun h=>.inr (let ⟨op,a,b,c,_,e⟩:=h.2; ⟨op,a,b,c,e⟩)) (fun h0=>by
     obtain ⟨h8,op,o1,o2,o3,o4,o5⟩:=hp.resolve_left (fun h=>h0 h.1)
     obtain ⟨m,rfl⟩:∃ m',m = m' + 1:=⟨m - 1,by omega⟩
     have:=sub_le (m + 1) (List.getElem_mem h) h0
     exact rText_eq m (d + 1) n _ (by omega) (by omega) o4 (by omega) (by omega)),Option.bind_some])
   (fun k s=>by rw [ref13_Text_l1,Tk_len,nlt_n]; rfl) n (by omega)
  rw [List.nil_append,← T_pc] at this
  have this:ref13_Text_l1 (ref13_Text n) n (Tk (m + 1) l) n [] 0 = some (T (m + 1) l):=this
  rw [this]; rfl
 termination_by m=>m
end Go.Proofs.YtibgdilkodjojaaDoor.M
