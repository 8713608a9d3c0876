import Derived.Test.YtibgdilkodjojaaGreatDoorQPG14
set_option linter.all false
namespace Go.Proofs.YtibgdilkodjojaaGreatDoor.M
open Go Go.Proofs.YtibgdilkodjojaaGreatDoor.RX Go.Proofs.YtibgdilkodjojaaGreatDoor.PL
set_option maxRecDepth 100000
def escS (t:BS):BS:=t.flatMap (PL.sub 36 [36,36])
def mkS (op:Int):BS:=marks[op.toNat]?.getD []
def T:Nat → List TP → BS
 | 0,_=>[]
 | d + 1,l=>l.flatMap fun p=>if p.f_Op = 0 then escS p.f_Text else [36,123] ++ p.f_Name ++ mkS p.f_Op ++ T d p.f_Sub ++ [125]
def N:BS → List TP → List TP
 | w,[]=>fl w
 | w,p :: l=>if p.f_Op = 0 then N (w ++ p.f_Text) l else fl w ++ p :: N [] l
inductive V:Nat → List TP → Prop
 | nil (d:Nat):V d []
 | text (d:Nat) (t:BS) (l:List TP) (ht:t ≠ []) (hc:1 < d → (125:UInt8) ∉ t) (h:V d l):V d (S_tmpl_Part.mk [] t 0 [] :: l)
 | var1 (d:Nat) (nm:BS) (l:List TP) (hd:d ≤ 8) (hv:varB nm = true) (hw:∀ c ∈ nm,wordB c = true) (h:V d l):V d (S_tmpl_Part.mk nm [] 1 [] :: l)
 | var (d:Nat) (nm:BS) (op:Nat) (sb l:List TP) (hd:d ≤ 8) (hv:varB nm = true) (hw:∀ c ∈ nm,wordB c = true) (h2:2 ≤ op) (h7:op ≤ 7) (hs:V (d + 1) sb) (hn:N [] sb = sb) (h:V d l):V d (S_tmpl_Part.mk nm [] (op:Int) sb :: l)
theorem N_text (w t:BS) (l:List TP):N w (S_tmpl_Part.mk [] t 0 [] :: l) = N (w ++ t) l:=by rw [N,if_pos rfl]
theorem N_var (w:BS) (p:TP) (l:List TP) (h:p.f_Op ≠ 0):N w (p :: l) = fl w ++ p :: N [] l:=by rw [N,if_neg h]
theorem N_fl (v w:BS) (l:List TP):N v (fl w ++ l) = N (v ++ w) l:=by
 unfold fl
 by_cases h:w = []
 ·subst h; simp
 ·rw [if_neg h,List.singleton_append,N_text]
theorem N_N:∀ (k:List TP) (v w:BS),N v (N w k) = N (v ++ w) k
 | [],v,w=>by
  have:=N_fl v w []
  rw [List.append_nil] at this
  rw [show N w [] = fl w from rfl,this]
 | p :: k,v,w=>by
  by_cases h:p.f_Op = 0
  ·rw [N,if_pos h,N,if_pos h,N_N k,List.append_assoc]
  ·rw [N_var w p k h,N_var _ p k h,N_fl,N_var _ p _ h,N_N k]; rfl
theorem V_fl {d:Nat} {w:BS} {l:List TP} (hw:1 < d → (125:UInt8) ∉ w) (h:V d l):V d (fl w ++ l):=by
 unfold fl
 by_cases e:w = []
 ·rw [if_pos e]; exact h
 ·rw [if_neg e]; exact .text d w l e hw h
theorem V_N {d:Nat} {k:List TP} (h:V d k):∀ w:BS,(1 < d → (125:UInt8) ∉ w) → V d (N w k):=by
 induction h with
 | nil d=>intro w hw; have:=V_fl hw (.nil d); rwa [List.append_nil] at this
 | text d t l ht hc h ih =>
  intro w hw
  rw [N_text]
  exact ih _ fun h1 hm=>by rcases List.mem_append.1 hm with h2 | h2; exact hw h1 h2; exact hc h1 h2
 | var1 d nm l hd hv hwd h ih =>
  intro w hw
  rw [N_var _ _ _ (by show ¬ (1:Int) = 0; decide)]
  exact V_fl hw (.var1 d nm _ hd hv hwd (ih [] (by simp)))
 | var d nm op sb l hd hv hwd h2 h7 hs hn h ihs ih =>
  intro w hw
  rw [N_var _ _ _ (by show (op:Int) ≠ 0; omega)]
  exact V_fl hw (.var d nm op sb _ hd hv hwd h2 h7 hs hn (ih [] (by simp)))
theorem nm_word (r:BS):∀ c ∈ nmOf r,wordB c = true:=fun c hc=>by
 have:=List.all_takeWhile (p:=wordB) (l:=r)
 exact List.all_eq_true.1 this c hc
theorem Ps_V {d:Nat} {r w:BS} {l:List TP} {r':BS} (h:Ps d r w l r'):1 ≤ d → ∃ k,V d k ∧ l = N w k:=by
 induction h with
 | done d r w h=>intro _; exact ⟨[],.nil d,rfl⟩
 | char d c r w l r' h1 h2 h ih =>
  intro hd
  obtain ⟨k,k1,k2⟩:=ih hd
  exact ⟨S_tmpl_Part.mk [] [c] 0 [] :: k,.text d [c] k (by simp) (fun h3 hm=>h2 ⟨h3,(List.mem_singleton.1 hm).symm⟩) k1,by rw [N_text]; exact k2⟩
 | dollar d r w l r' h ih =>
  intro hd
  obtain ⟨k,k1,k2⟩:=ih hd
  exact ⟨S_tmpl_Part.mk [] [36] 0 [] :: k,.text d [36] k (by simp) (fun _=>by decide) k1,by rw [N_text]; exact k2⟩
 | plain d r w l r' hd8 h0 h1 hv h ih =>
  intro hd
  obtain ⟨k,k1,k2⟩:=ih hd
  exact ⟨_ :: k,.var1 d (nmOf r) k hd8 hv (nm_word r) k1,by rw [N_var _ _ _ (by show ¬ (1:Int) = 0; decide),k2]⟩
 | one d r w r1 l r' hd8 hv he h ih =>
  intro hd
  obtain ⟨k,k1,k2⟩:=ih hd
  exact ⟨_ :: k,.var1 d (nmOf r) k hd8 hv (nm_word r) k1,by rw [N_var _ _ _ (by show ¬ (1:Int) = 0; decide),k2]⟩
 | sub d r w sb r1 l r' hd8 hv hm hs h ihs ih =>
  intro hd
  obtain ⟨k,k1,k2⟩:=ih hd
  obtain ⟨ks,s1,s2⟩:=ihs (by omega)
  obtain ⟨m1,m2,m3,m4,m5⟩:=mk_len (afOf r)
  refine ⟨_ :: k,.var d (nmOf r) (mk (afOf r)).1 sb k hd8 hv (nm_word r) (by omega) m2 ?_ ?_ k1,by rw [N_var _ _ _ (by show (((mk (afOf r)).1:Nat):Int) ≠ 0; omega),k2]⟩
  ·rw [s2]; exact V_N s1 [] (by simp)
  ·rw [s2,N_N]; rfl
theorem Ps_form {s:BS} {l:List TP} (h:Ps 1 s [] l []):V 1 l ∧ N [] l = l:=by
 obtain ⟨k,k1,k2⟩:=Ps_V h (by omega)
 exact ⟨by rw [k2]; exact V_N k1 [] (by simp),by rw [k2,N_N]; rfl⟩
theorem T_nil (d:Nat):T d [] = []:=by cases d <;> rfl
theorem T_cons (d:Nat) (p:TP) (l:List TP):T (d + 1) (p :: l) = (if p.f_Op = 0 then escS p.f_Text else [36,123] ++ p.f_Name ++ mkS p.f_Op ++ T d p.f_Sub ++ [125]) ++ T (d + 1) l:=by
 show List.flatMap _ (p :: l) = _
 rw [List.flatMap_cons]; rfl
theorem T_app (d:Nat) (k l:List TP):T (d + 1) (k ++ l) = T (d + 1) k ++ T (d + 1) l:=by unfold T; rw [List.flatMap_append]
theorem T_fl (d:Nat) (w:BS):T (d + 1) (fl w) = escS w:=by
 unfold fl
 by_cases h:w = []
 ·subst h; rfl
 ·rw [if_neg h,T_cons,if_pos rfl,T_nil,List.append_nil]
theorem escS_cons (c:UInt8) (t:BS):escS (c :: t) = if c = 36 then 36 :: 36 :: escS t else c :: escS t:=by
 unfold escS
 rw [List.flatMap_cons]
 unfold PL.sub
 by_cases h:c = 36
 ·simp [h]
 ·simp [h]
theorem escS_len:∀ w:BS,w.length ≤ (escS w).length ∧ (escS w).length ≤ 2 * w.length
 | []=>⟨Nat.le_refl _,Nat.le_refl _⟩
 | c :: w=>by
  obtain ⟨h1,h2⟩:=escS_len w
  rw [escS_cons]
  split
  ·simp; omega
  ·simp; omega
theorem Ps_len {d:Nat} {r w:BS} {l:List TP} {r':BS} (h:Ps d r w l r'):1 ≤ d → d ≤ 9 → r'.length ≤ r.length ∧ (T (10 - d) l).length + 3 * r'.length ≤ 3 * r.length + 2 * w.length:=by
 induction h with
 | done d r w h =>
  intro _ hd
  obtain ⟨m,hm⟩:∃ m,10 - d = m + 1:=⟨9 - d,by omega⟩
  rw [hm,T_fl]
  have:=escS_len w
  omega
 | char d c r w l r' h1 h2 h ih=>intro hd1 hd; have:=ih hd1 hd; simp at this ⊢; omega
 | dollar d r w l r' h ih=>intro hd1 hd; have:=ih hd1 hd; simp at this ⊢; omega
 | plain d r w l r' hd8 h0 h1 hv h ih =>
  intro hd1 hd
  have h:=ih hd1 hd
  obtain ⟨m,hm⟩:∃ m,10 - d = m + 1:=⟨9 - d,by omega⟩
  rw [hm] at h ⊢
  have hl:=congrArg List.length (nm_af r)
  have hne:=List.length_pos_iff.2 (varB_ne hv)
  have he:=escS_len w
  rw [T_app,T_fl,T_cons,if_neg (by show ¬ (1:Int) = 0; decide),T_nil,show mkS 1 = [] from rfl]
  simp at h hl ⊢
  omega
 | one d r w r1 l r' hd8 hv hf h ih =>
  intro hd1 hd
  have h:=ih hd1 hd
  obtain ⟨m,hm⟩:∃ m,10 - d = m + 1:=⟨9 - d,by omega⟩
  rw [hm] at h ⊢
  have hl:=congrArg List.length (nm_af r)
  rw [hf] at hl
  have he:=escS_len w
  rw [T_app,T_fl,T_cons,if_neg (by show ¬ (1:Int) = 0; decide),T_nil,show mkS 1 = [] from rfl]
  simp at h hl ⊢
  omega
 | sub d r w sb r1 l r' hd8 hv ho hs h ihs ih =>
  intro hd1 hd
  have h1:=ih hd1 hd
  have h2:=ihs (by omega) (by omega)
  obtain ⟨m,hm⟩:∃ m,10 - d = m + 1:=⟨9 - d,by omega⟩
  rw [hm] at h1 ⊢
  rw [show 10 - (d + 1) = m by omega] at h2
  have hl:=congrArg List.length (nm_af r)
  have he:=escS_len w
  obtain ⟨m1,m2,m3,m4,m5⟩:=mk_len (afOf r)
  have hmk:(mkS (((mk (afOf r)).1:Nat):Int)).length = (mk (afOf r)).2:=by
   have:∀ x:BS,(mkS (((mk x).1:Nat):Int)).length = (mk x).2:=by
    intro x
    cases x with
    | nil=>rfl
    | cons c x =>
     cases x with
     | nil =>
      simp only [mk]
      repeat' split
      all_goals rfl
     | cons e x =>
      simp only [mk]
      repeat' split
      all_goals rfl
   exact this _
  have hop:¬ (S_tmpl_Part.mk (nmOf r) [] ((mk (afOf r)).1:Int) sb).f_Op = 0:=by show ¬ ((((mk (afOf r)).1:Nat):Int) = 0); omega
  rw [T_app,T_fl,T_cons,if_neg hop]
  simp only [List.length_append,List.length_cons,List.length_nil,List.length_drop,hmk] at h1 h2 hl ⊢
  omega
theorem take_flat {α β:Type} (f:α → List β) (l:List α) (i:Nat) (h:i < l.length):(l.take (i + 1)).flatMap f = (l.take i).flatMap f ++ f l[i]:=by
 rw [List.take_succ_eq_append_getElem h,List.flatMap_append]; simp
theorem flat_take_le {α β:Type} (f:α → List β) (l:List α) (i:Nat):((l.take i).flatMap f).length ≤ (l.flatMap f).length:=by
 conv=>rhs; rw [← List.take_append_drop i l,List.flatMap_append]
 simp
theorem gatherF {α β ρ:Type} {L:Nat → List β → Int → Option ρ} (l:List α) (f:α → List β) (s0:List β) (fin:List β → ρ) (hN:l.length < 1000000000)
  (hs:∀ k i (h:i < l.length) (s:List β),s.length + (f l[i]).length ≤ s0.length + (l.flatMap f).length → L (k + 1) s (i:Int) = L k (s ++ f l[i]) (IntKind.wrap .i64 ((i:Int) + 1)))
  (he:∀ k s,L (k + 1) s (l.length:Int) = some (fin s)) (k:Nat) (hk:l.length < k):L k s0 0 = some (fin (s0 ++ l.flatMap f)):=by
 have key:∀ (k i:Nat),i ≤ l.length → l.length - i < k → L k (s0 ++ (l.take i).flatMap f) (i:Int) = some (fin (s0 ++ l.flatMap f)):=by
  intro k
  induction k with
  | zero=>intro i _ h; omega
  | succ k ih =>
   intro i h1 h2
   by_cases h:i < l.length
   ·have ht:=take_flat f l i h
    have hle:=flat_take_le f l (i + 1)
    rw [ht,List.length_append] at hle
    rw [hs k i h _ (by rw [List.length_append]; omega),wrap_s i (by omega),List.append_assoc,← ht]
    exact ih (i + 1) (by omega) (by omega)
   ·have:i = l.length:=by omega
    subst this
    rw [he,List.take_length]
 have:=key k 0 (by omega) (by omega)
 rw [List.take_zero,List.flatMap_nil,List.append_nil] at this
 exact this
theorem V_mem {d:Nat} {l:List TP} (h:V d l):∀ p ∈ l,(p.f_Op = 0 ∧ p.f_Sub = []) ∨ (d ≤ 8 ∧ ∃ op:Nat,p.f_Op = (op:Int) ∧ 1 ≤ op ∧ op ≤ 7 ∧ V (d + 1) p.f_Sub ∧ (op = 1 → p.f_Sub = [])):=by
 induction h with
 | nil d=>intro p hp; cases hp
 | text d t l ht hc h ih =>
  intro p hp
  rcases List.mem_cons.1 hp with rfl | hp
  ·exact .inl ⟨rfl,rfl⟩
  ·exact ih p hp
 | var1 d nm l hd hv hw h ih =>
  intro p hp
  rcases List.mem_cons.1 hp with rfl | hp
  ·exact .inr ⟨hd,1,rfl,Nat.le_refl _,by omega,.nil _,fun _=>rfl⟩
  ·exact ih p hp
 | var d nm op sb l hd hv hw h2 h7 hs hn h ihs ih =>
  intro p hp
  rcases List.mem_cons.1 hp with rfl | hp
  ·exact .inr ⟨hd,op,rfl,by omega,h7,hs,fun e=>by omega⟩
  ·exact ih p hp
def pc (m:Nat) (p:TP):BS:=if p.f_Op = 0 then escS p.f_Text else [36,123] ++ p.f_Name ++ mkS p.f_Op ++ T m p.f_Sub ++ [125]
theorem T_pc (m:Nat) (l:List TP):T (m + 1) l = l.flatMap (pc m):=rfl
theorem pc_le (m:Nat) {l:List TP} {p:TP} (hp:p ∈ l):(pc m p).length ≤ (T (m + 1) l).length:=by
 rw [T_pc]
 obtain ⟨i,hi,rfl⟩:=List.mem_iff_getElem.1 hp
 have:=flat_take_le (pc m) l (i + 1)
 rw [take_flat _ _ _ hi,List.length_append] at this
 omega
theorem sub_le (m:Nat) {l:List TP} {p:TP} (hp:p ∈ l) (h:p.f_Op ≠ 0):(T m p.f_Sub).length + 3 + p.f_Name.length ≤ (T (m + 1) l).length:=by
 have:=pc_le m hp
 unfold pc at this
 rw [if_neg h] at this
 simp at this
 omega
theorem V_len {d:Nat} {l:List TP} (h:V d l) (m:Nat):l.length ≤ (T (m + 1) l).length:=by
 induction h with
 | nil d=>simp
 | text d t l ht hc h ih =>
  rw [T_cons,if_pos rfl]
  have:=List.length_pos_iff.2 ht
  have:=escS_len t
  simp; omega
 | var1 d nm l hd hv hw h ih=>rw [T_cons,if_neg (by show ¬ (1:Int) = 0; decide)]; simp; omega
 | var d nm op sb l hd hv hw h2 h7 hs hn h ihs ih =>
  have hop:¬ (S_tmpl_Part.mk nm [] (op:Int) sb).f_Op = 0:=by show ¬ ((op:Int) = 0); omega
  rw [T_cons,if_neg hop]; simp; omega
theorem capS {a b:Nat} (h:a + b ≤ 1000000000):decide ((a + b) * (1 + 1) ≤ limit) = true:=decide_eq_true (by show (a + b) * (1 + 1) ≤ 140737488355328; omega)
theorem text_j2 (R:List TP → Option BS) (n m:Nat) (l:List TP) (v7:Int) (i:Nat) (h:i < l.length) (s:BS) (hs:s.length + (pc m l[i]).length ≤ 1000000)
  (hop:l[i].f_Op = 0 ∨ ∃ op:Nat,l[i].f_Op = (op:Int) ∧ 1 ≤ op ∧ op ≤ 7 ∧ (op = 1 → l[i].f_Sub = [])) (hR:l[i].f_Op ≠ 0 → R l[i].f_Sub = some (T m l[i].f_Sub)):tmpl_Text_j2 R n l v7 (i:Int) s = some (s ++ pc m l[i]):=by
 unfold tmpl_Text_j2
 rw [if_pos (in_i h),at_i h]
 generalize l[i] = p at hs hop hR
 unfold pc at hs ⊢
 by_cases h0:p.f_Op = 0
 ·rw [if_pos h0] at hs ⊢
  have hr:Lib.replaceAll p.f_Text ([36]:BS) ([36,36]:BS) = escS p.f_Text:=replaceAll_eq 36 _ _ (by decide)
  have hl:=escS_len p.f_Text
  have hc:=countB_le 36 p.f_Text
  have c1:decide (List.length p.f_Text < 4294967281 ∧ 1 ≤ List.length ([36]:List UInt8) ∧ List.length p.f_Text + Lib.countB ⟨List.toArray p.f_Text⟩ ⟨List.toArray ([36]:List UInt8)⟩ * List.length ([36,36]:List UInt8) ≤ limit) = true:=by
   refine decide_eq_true ⟨by omega,by simp,?_⟩
   show _ + _ * 2 ≤ 140737488355328
   omega
  rw [if_pos (by simp [h0]),if_pos c1,hr,if_pos (capS (by omega))]; rfl
 ·rw [if_neg h0] at hs ⊢
  obtain ⟨op,o1,o2,o3,o4⟩:=hop.resolve_left h0
  simp only [List.length_append,List.length_cons,List.length_nil] at hs
  rw [if_neg (by simpa using h0),if_pos (str_fits (by simp; omega)),if_pos (capS (by simp; omega))]
  unfold tmpl_Text_j3
  simp only [lett,marks_eq]
  by_cases h1:op = 1
  ·have e1:p.f_Op = 1:=by rw [o1,h1]; rfl
   have hm:mkS p.f_Op = []:=by rw [e1]; rfl
   rw [hm,o4 h1,T_nil,e1,if_neg (by decide),Option.bind_some,if_pos (capS (by simp; omega))]
   simp
  ·have c1:(bif decide (p.f_Op > 1) then decide (p.f_Op ≤ 7) else false) = true:=by
    rw [decide_eq_true (show p.f_Op > 1 by omega)]; simp; omega
   have c2:decide (0 ≤ p.f_Op ∧ p.f_Op < (8:Int)) = true:=decide_eq_true (by omega)
   have c3:decide (List.length marks = 8) = true:=rfl
   rw [if_pos c1,Option.bind_some,if_pos c2,if_pos c3,hR h0,Option.bind_some]
   have hmk:marks[Int.toNat p.f_Op]?.getD [] = mkS p.f_Op:=rfl
   rw [hmk,if_pos (str_fits (by omega)),if_pos (capS (by simp; omega)),Option.bind_some,if_pos (capS (by simp; omega))]
   simp
theorem Text_eq:∀ (m d n:Nat) (l:List TP),d + m = 9 → 1 ≤ d → V d l → (T (m + 1) l).length ≤ 100000 → 100002 + m ≤ n → tmpl_Text n l = some (T (m + 1) l)
 | m,d,n,l,hdm,hd,hV,hT,hn=>by
  obtain ⟨n,rfl⟩:∃ n',n = n' + 1:=⟨n - 1,by omega⟩
  have hmem:=V_mem hV
  have hlen:=V_len hV m
  show tmpl_Text_b (tmpl_Text n) n l = _
  unfold tmpl_Text_b
  have:=gatherF (L:=fun k s i=>tmpl_Text_l1 (tmpl_Text n) n l (l.length:Int) k i s) l (pc m) [] id (by omega)
   (fun k i h s hb=>by
    have hp:=hmem l[i] (List.getElem_mem h)
    rw [← T_pc] at hb
    rw [tmpl_Text_l1,if_pos (lt_i h),text_j2 (tmpl_Text n) n m l _ i h s (by simp at hb; omega) (hp.elim (fun h=>.inl h.1) fun h=>.inr (let ⟨op,a,b,c,_,e⟩:=h.2; ⟨op,a,b,c,e⟩)) (fun h0=>by
     obtain ⟨h8,op,o1,o2,o3,o4,o5⟩:=hp.resolve_left (fun h=>h0 h.1)
     obtain ⟨m,rfl⟩:∃ m',m = m' + 1:=⟨m - 1,by omega⟩
     have:=sub_le (m + 1) (List.getElem_mem h) h0
     exact Text_eq m (d + 1) n _ (by omega) (by omega) o4 (by omega) (by omega)),Option.bind_some])
   (fun k s=>by rw [tmpl_Text_l1,nlt_n]; rfl) n (by omega)
  rw [List.nil_append,← T_pc] at this
  have this:tmpl_Text_l1 (tmpl_Text n) n l (l.length:Int) n 0 [] = some (T (m + 1) l):=this
  rw [this]; rfl
 termination_by m=>m
abbrev RP:=S_ref13_Part
def Tk:Nat → List TP → List RP
 | 0,_=>[]
 | d + 1,l=>l.map fun p=>S_ref13_Part.mk p.f_Name p.f_Text p.f_Op (Tk d p.f_Sub)
def tk (m:Nat) (p:TP):RP:=S_ref13_Part.mk p.f_Name p.f_Text p.f_Op (Tk m p.f_Sub)
theorem Tk_map (m:Nat) (l:List TP):Tk (m + 1) l = l.map (tk m):=rfl
theorem Tk_nil (m:Nat):Tk m [] = []:=by cases m <;> rfl
theorem Tk_at (m:Nat) (l:List TP) (i:Nat) (h:i < l.length) (h':i < (Tk (m + 1) l).length):(Tk (m + 1) l)[i] = tk m l[i]:=by simp [Tk_map]
theorem Tk_len (m:Nat) (l:List TP):(Tk (m + 1) l).length = l.length:=by simp [Tk_map]
theorem rtext_l3 (R:List RP → Option BS) (n:Nat) (v0:List RP) (v4:Int) (b:RP) (s0:BS) (hn:100000 ≤ n) (hb:b.f_Text.length ≤ 90000) (hs:s0.length ≤ 1000000):ref13_Text_l3 R n v0 v4 b n s0 0 = some (s0 ++ escS b.f_Text):=by
 have hel:=(escS_len b.f_Text).2
 have:=gatherF (L:=ref13_Text_l3 R n v0 v4 b) b.f_Text (PL.sub 36 [36,36]) s0 id (by omega)
  (fun k i h s hl=>by
   have hl:s.length + (PL.sub 36 [36,36] b.f_Text[i]).length ≤ s0.length + (escS b.f_Text).length:=hl
   have hw:=wrap_s i (by omega)
   rw [ref13_Text_l3,if_pos (lt_i h)]
   unfold ref13_Text_j4 ref13_Text_j5
   rw [if_pos (in_i h),at_i h,b36,hw]
   unfold PL.sub at hl ⊢
   by_cases e:b.f_Text[i] = 36
   ·rw [if_pos e] at hl ⊢
    simp only [List.length_cons,List.length_nil] at hl
    rw [if_pos (decide_eq_true e),if_pos (str_fits (by simp; omega)),Option.bind_some,if_pos (le_i (by omega)),if_pos (le_ij (by omega)),sub1 h,if_pos (str_fits (by simp; omega)),Option.bind_some,e]
    simp
   ·rw [if_neg e] at hl ⊢
    simp only [List.length_cons,List.length_nil] at hl
    rw [if_neg (by simpa using e),Option.bind_some,if_pos (le_i (by omega)),if_pos (le_ij (by omega)),sub1 h,if_pos (str_fits (by simp; omega)),Option.bind_some])
  (fun k s=>by rw [ref13_Text_l3,nlt_n]; rfl) n (by omega)
 exact this
theorem rmark_eq (n:Nat) (op:Int) (h0:0 ≤ op) (h7:op ≤ 7):ref13_mark n op = some (mkS op):=by
 unfold ref13_mark
 rw [decide_eq_false (by omega:¬ op < 0),decide_eq_false (by omega:¬ op > 7),if_neg (by decide),if_pos (decide_eq_true (by show 0 ≤ op ∧ op < ((8:Nat):Int); omega))]
 rfl
theorem rtext_j2 (R:List RP → Option BS) (n m:Nat) (l:List TP) (i:Nat) (h:i < l.length) (s:BS) (hn:100000 ≤ n) (hs:s.length + (pc m l[i]).length ≤ 80000)
  (hop:l[i].f_Op = 0 ∨ ∃ op:Nat,l[i].f_Op = (op:Int) ∧ 1 ≤ op ∧ op ≤ 7 ∧ (op = 1 → l[i].f_Sub = [])) (hR:l[i].f_Op ≠ 0 → R (Tk m l[i].f_Sub) = some (T m l[i].f_Sub)):ref13_Text_j2 R n (Tk (m + 1) l) s (i:Int) = some (s ++ pc m l[i]):=by
 have h':i < (Tk (m + 1) l).length:=by rw [Tk_len]; exact h
 unfold ref13_Text_j2
 rw [if_pos (in_i h'),at_i h',Tk_at m l i h h']
 generalize l[i] = p at hs hop hR
 unfold tk
 simp only
 unfold pc at hs ⊢
 by_cases h0:p.f_Op = 0
 ·rw [if_pos h0] at hs ⊢
  have hl:=escS_len p.f_Text
  rw [if_pos (by simp [h0]),rtext_l3 R n _ _ _ s hn (by simp only; omega) (by omega)]; rfl
 ·rw [if_neg h0] at hs ⊢
  obtain ⟨op,o1,o2,o3,o4⟩:=hop.resolve_left h0
  simp only [List.length_append,List.length_cons,List.length_nil] at hs
  rw [if_neg (by simpa using h0),if_pos (str_fits (by simp; omega)),if_pos (str_fits (by simp; omega)),if_pos (str_fits (by simp; omega)),rmark_eq n _ (by omega) (by omega),Option.bind_some,if_pos (str_fits (by simp; omega))]
  unfold ref13_Text_j6
  by_cases h1:op = 1
  ·have e1:p.f_Op = 1:=by rw [o1,h1]; rfl
   have hm:mkS p.f_Op = []:=by rw [e1]; rfl
   rw [hm,o4 h1,T_nil,e1,if_neg (show ¬ decide ((1:Int) > 1) = true by decide),Option.bind_some,if_pos (str_fits (by simp; omega))]
   simp
  ·rw [if_pos (decide_eq_true (by omega)),hR h0,Option.bind_some,if_pos (str_fits (by simp; omega)),Option.bind_some,if_pos (str_fits (by simp; omega))]
   simp
theorem rText_eq:∀ (m d n:Nat) (l:List TP),d + m = 9 → 1 ≤ d → V d l → (T (m + 1) l).length ≤ 50000 → 100002 + m ≤ n → ref13_Text n (Tk (m + 1) l) = some (T (m + 1) l)
 | m,d,n,l,hdm,hd,hV,hT,hn=>by
  obtain ⟨n,rfl⟩:∃ n',n = n' + 1:=⟨n - 1,by omega⟩
  have hmem:=V_mem hV
  have hlen:=V_len hV m
  show ref13_Text_b (ref13_Text n) n _ = _
  unfold ref13_Text_b
  have:=gatherF (L:=ref13_Text_l1 (ref13_Text n) n (Tk (m + 1) l)) l (pc m) [] id (by omega)
   (fun k i h s hb=>by
    have hp:=hmem l[i] (List.getElem_mem h)
    have h':i < (Tk (m + 1) l).length:=by rw [Tk_len]; exact h
    rw [← T_pc] at hb
    rw [ref13_Text_l1,if_pos (lt_i h'),rtext_j2 (ref13_Text n) n m l i h s (by omega) (by simp at hb; omega) (hp.elim (fun h=>.inl h.1) fun h=>.inr (let ⟨op,a,b,c,_,e⟩:=h.2; ⟨op,a,b,c,e⟩)) (fun h0=>by
     obtain ⟨h8,op,o1,o2,o3,o4,o5⟩:=hp.resolve_left (fun h=>h0 h.1)
     obtain ⟨m,rfl⟩:∃ m',m = m' + 1:=⟨m - 1,by omega⟩
     have:=sub_le (m + 1) (List.getElem_mem h) h0
     exact rText_eq m (d + 1) n _ (by omega) (by omega) o4 (by omega) (by omega)),Option.bind_some])
   (fun k s=>by rw [ref13_Text_l1,Tk_len,nlt_n]; rfl) n (by omega)
  rw [List.nil_append,← T_pc] at this
  have this:ref13_Text_l1 (ref13_Text n) n (Tk (m + 1) l) n [] 0 = some (T (m + 1) l):=this
  rw [this]; rfl
 termination_by m=>m
theorem name_Sorted_o_eq (n:Nat) (l:List BS) (h:l.length ≤ 1000000):name_Sorted_o n l = some (srt l):=name_Sorted_eq n l h
theorem ref02_Sorted_eqW (n:Nat) (l:List BS) (hl:l.length < 100000) (hn:100000 ≤ n):ref02_Sorted n l = some (srt l):=by
 unfold ref02_Sorted
 have:=l1_eq n l hl hn n 0 (by omega) (by have:=srt_length_le l; omega)
 rw [List.take_zero] at this
 rw [this]; rfl
def nms:Nat → List TP → List BS
 | 0,_=>[]
 | d + 1,l=>l.flatMap fun p=>(if p.f_Op = 0 then [] else [p.f_Name]) ++ nms d p.f_Sub
def nm1 (m:Nat) (p:TP):List BS:=(if p.f_Op = 0 then [] else [p.f_Name]) ++ nms m p.f_Sub
def nm2 (m:Nat) (p:TP):List BS:=(if p.f_Op = 0 then [] else [p.f_Name]) ++ srt (nms m p.f_Sub)
theorem nms_eq (m:Nat) (l:List TP):nms (m + 1) l = l.flatMap (nm1 m):=rfl
theorem nms_nil (m:Nat):nms m [] = []:=by cases m <;> rfl
theorem nms_len {d:Nat} {l:List TP} (h:V d l):∀ m,(nms (m + 1) l).length ≤ (T (m + 1) l).length:=by
 induction h with
 | nil d=>intro m; simp [nms_eq]
 | text d t l ht hc h ih =>
  intro m
  have:=ih m
  have e:nms (m + 1) (S_tmpl_Part.mk [] t 0 [] :: l) = nms (m + 1) l:=by rw [nms_eq,List.flatMap_cons,nm1,if_pos rfl]; simp only; rw [nms_nil]; rfl
  rw [e,T_cons]; simp; omega
 | var1 d nm l hd hv hw h ih =>
  intro m
  have:=ih m
  have e:nms (m + 1) (S_tmpl_Part.mk nm [] 1 [] :: l) = nm :: nms (m + 1) l:=by rw [nms_eq,List.flatMap_cons,nm1,if_neg (by show ¬ (1:Int) = 0; decide)]; simp only; rw [nms_nil]; rfl
  rw [e,T_cons,if_neg (by show ¬ (1:Int) = 0; decide)]; simp; omega
 | var d nm op sb l hd hv hw h2 h7 hs hn h ihs ih =>
  intro m
  have h1:=ih m
  have hop:¬ (S_tmpl_Part.mk nm [] (op:Int) sb).f_Op = 0:=by show ¬ ((op:Int) = 0); omega
  have e:nms (m + 1) (S_tmpl_Part.mk nm [] (op:Int) sb :: l) = nm :: (nms m sb ++ nms (m + 1) l):=by rw [nms_eq,List.flatMap_cons,nm1,if_neg hop]; rfl
  have h3:(nms m sb).length ≤ (T m sb).length:=by
   cases m with
   | zero=>exact Nat.zero_le _
   | succ m=>exact ihs m
  rw [e,T_cons,if_neg hop]; simp; omega
theorem cap17 {α:Type} {a b:List α} (h:a.length + b.length ≤ 1000000):decide ((List.length a + List.length b) * (16 + 1) ≤ limit) = true:=cap_add (by omega)
theorem nms_mem (m:Nat) (l:List TP):∀ x,x ∈ l.flatMap (nm2 m) ↔ x ∈ l.flatMap (nm1 m):=by
 intro x
 simp only [List.mem_flatMap,nm1,nm2,List.mem_append,mem_srt]
theorem nm2_len (m:Nat) (l:List TP):(l.flatMap (nm2 m)).length ≤ (l.flatMap (nm1 m)).length:=by
 induction l with
 | nil=>simp
 | cons p l ih =>
  have:=srt_length_le (nms m p.f_Sub)
  simp only [List.flatMap_cons,List.length_append,nm1,nm2] at ih ⊢
  omega
theorem NamesO_nil (n:Nat):tmpl_Names_o (n + 2) [] = some []:=by
 show tmpl_Names_o_b (tmpl_Names_o (n + 1)) (n + 1) [] = _
 unfold tmpl_Names_o_b
 rw [tmpl_Names_o_l1]
 rw [if_neg (by simp),Option.bind_some,name_Sorted_o_eq (n + 1) [] (by simp)]; rfl
theorem NamesO_eq:∀ (m d n:Nat) (l:List TP),d + m = 9 → 1 ≤ d → V d l → (T (m + 1) l).length ≤ 50000 → 100002 + m ≤ n → tmpl_Names_o n l = some (srt (nms (m + 1) l))
 | m,d,n,l,hdm,hd,hV,hT,hn=>by
  obtain ⟨n,rfl⟩:∃ n',n = n' + 1:=⟨n - 1,by omega⟩
  have hmem:=V_mem hV
  have hlen:=V_len hV m
  have hnl:=nms_len hV m
  have h2l:=nm2_len m l
  rw [← nms_eq] at h2l
  show tmpl_Names_o_b (tmpl_Names_o n) n l = _
  unfold tmpl_Names_o_b
  have:=gatherF (L:=tmpl_Names_o_l1 (tmpl_Names_o n) n l (l.length:Int)) l (nm2 m) [] id (by omega)
   (fun k i h s hb=>by
    have hp:=hmem l[i] (List.getElem_mem h)
    have hsub:tmpl_Names_o n l[i].f_Sub = some (srt (nms m l[i].f_Sub)):=by
     by_cases h0:l[i].f_Op = 0
     ·rcases hp with h | ⟨_,op,o1,o2,_⟩
      ·rw [h.2,nms_nil]
       obtain ⟨n,rfl⟩:∃ n',n = n' + 2:=⟨n - 2,by omega⟩
       exact NamesO_nil n
      ·omega
     ·obtain ⟨h8,op,o1,o2,o3,o4,o5⟩:=hp.resolve_left (fun h=>h0 h.1)
      obtain ⟨m,rfl⟩:∃ m',m = m' + 1:=⟨m - 1,by omega⟩
      have:=sub_le (m + 1) (List.getElem_mem h) h0
      exact NamesO_eq m (d + 1) n _ (by omega) (by omega) o4 (by omega) (by omega)
    rw [tmpl_Names_o_l1,if_pos (lt_i h)]
    unfold tmpl_Names_o_j2 tmpl_Names_o_j3
    rw [if_pos (in_i h),at_i h,hsub]
    have hb2:s.length + (nm2 m l[i]).length ≤ 50000:=by simp only [List.length_nil] at hb; omega
    clear hb
    have hb:=hb2
    unfold nm2 at hb ⊢
    by_cases h0:l[i].f_Op = 0
    ·rw [if_pos h0] at hb ⊢
     simp only [List.length_append,List.length_nil] at hb
     rw [if_neg (by simp [h0]),Option.bind_some,Option.bind_some,if_pos (cap17 (by omega)),Option.bind_some]; rfl
    ·rw [if_neg h0] at hb ⊢
     simp only [List.length_append,List.length_nil,List.length_cons] at hb
     rw [if_pos (by simpa using h0),if_pos (cap17 (by simp only [List.length_append,List.length_cons,List.length_nil]; omega)),Option.bind_some,Option.bind_some,if_pos (cap17 (by simp only [List.length_append,List.length_cons,List.length_nil]; omega)),Option.bind_some]
     simp)
   (fun k s=>by rw [tmpl_Names_o_l1,nlt_n]; rfl) n (by omega)
  rw [List.nil_append] at this
  have this:tmpl_Names_o_l1 (tmpl_Names_o n) n l (l.length:Int) n [] 0 = some (l.flatMap (nm2 m)):=this
  rw [this,Option.bind_some,name_Sorted_o_eq n _ (by omega),Option.bind_some,srt_ext (nms_mem m l),← nms_eq]
 termination_by m=>m
theorem rnames_nil (n:Nat):ref13_names (n + 2) [] = some []:=by
 show ref13_names_b (ref13_names (n + 1)) (n + 1) [] = _
 unfold ref13_names_b
 rw [ref13_names_l1]; rfl
theorem rnames_l4 (R:List RP → Option (List BS)) (n:Nat) (v0:List RP) (v4:Int) (u s0:List BS) (hn:100000 ≤ n) (hu:u.length + s0.length ≤ 90000):ref13_names_l4 R n v0 v4 u n s0 0 = some (s0 ++ u):=by
 have hfl:∀ l:List BS,l.flatMap (fun x=>[x]) = l:=fun l=>by induction l <;> simp_all
 have:=gatherF (L:=ref13_names_l4 R n v0 v4 u) u (fun x=>[x]) s0 id (by omega)
  (fun k i h s hl=>by
   rw [hfl] at hl
   simp only [List.length_cons,List.length_nil] at hl
   rw [ref13_names_l4,if_pos (lt_i h),if_pos (in_i h),at_i h,if_pos (cap17 (by simp only [List.length_append,List.length_cons,List.length_nil]; omega))])
  (fun k s=>by rw [ref13_names_l4,nlt_n]; rfl) n (by omega)
 rw [hfl] at this
 exact this
theorem rnames_eq:∀ (m d n:Nat) (l:List TP),d + m = 9 → 1 ≤ d → V d l → (T (m + 1) l).length ≤ 50000 → 100002 + m ≤ n → ref13_names n (Tk (m + 1) l) = some (nms (m + 1) l)
 | m,d,n,l,hdm,hd,hV,hT,hn=>by
  obtain ⟨n,rfl⟩:∃ n',n = n' + 1:=⟨n - 1,by omega⟩
  have hmem:=V_mem hV
  have hlen:=V_len hV m
  have hnl:=nms_len hV m
  show ref13_names_b (ref13_names n) n _ = _
  unfold ref13_names_b
  have:=gatherF (L:=ref13_names_l1 (ref13_names n) n (Tk (m + 1) l)) l (nm1 m) [] id (by omega)
   (fun k i h s hb=>by
    have hp:=hmem l[i] (List.getElem_mem h)
    have h':i < (Tk (m + 1) l).length:=by rw [Tk_len]; exact h
    have hsub:ref13_names n (Tk m l[i].f_Sub) = some (nms m l[i].f_Sub):=by
     by_cases h0:l[i].f_Op = 0
     ·rcases hp with h | ⟨_,op,o1,o2,_⟩
      ·rw [h.2,nms_nil,Tk_nil]
       obtain ⟨n,rfl⟩:∃ n',n = n' + 2:=⟨n - 2,by omega⟩
       exact rnames_nil n
      ·omega
     ·obtain ⟨h8,op,o1,o2,o3,o4,o5⟩:=hp.resolve_left (fun h=>h0 h.1)
      obtain ⟨m,rfl⟩:∃ m',m = m' + 1:=⟨m - 1,by omega⟩
      have:=sub_le (m + 1) (List.getElem_mem h) h0
      exact rnames_eq m (d + 1) n _ (by omega) (by omega) o4 (by omega) (by omega)
    rw [← nms_eq] at hb
    simp only [List.length_nil,Nat.zero_add] at hb
    rw [ref13_names_l1,if_pos (lt_i h')]
    unfold ref13_names_j2 ref13_names_j3
    have e1:(tk m l[i]).f_Sub = Tk m l[i].f_Sub:=rfl
    have e2:(tk m l[i]).f_Name = l[i].f_Name:=rfl
    have e3:(tk m l[i]).f_Op = l[i].f_Op:=rfl
    rw [if_pos (in_i h'),at_i h',Tk_at m l i h h',e1,e2,e3,hsub]
    unfold nm1 at hb ⊢
    by_cases h0:l[i].f_Op = 0
    ·rw [if_pos h0] at hb ⊢
     simp only [List.length_append,List.length_nil] at hb
     rw [if_neg (by simp [h0]),Option.bind_some,if_pos (in_i h'),Option.bind_some,rnames_l4 _ n _ _ _ s (by omega) (by omega),Option.bind_some,Option.bind_some]; rfl
    ·rw [if_neg h0] at hb ⊢
     simp only [List.length_append,List.length_nil,List.length_cons] at hb
     rw [if_pos (by simpa using h0),if_pos (in_i h'),if_pos (cap17 (by simp only [List.length_append,List.length_cons,List.length_nil]; omega)),Option.bind_some,if_pos (in_i h'),Option.bind_some,rnames_l4 _ n _ _ _ _ (by omega) (by simp; omega),Option.bind_some,Option.bind_some]
     simp)
   (fun k s=>by rw [ref13_names_l1,Tk_len,nlt_n]; rfl) n (by omega)
  rw [List.nil_append,← nms_eq] at this
  have this:ref13_names_l1 (ref13_names n) n (Tk (m + 1) l) n [] 0 = some (nms (m + 1) l):=this
  rw [this]; rfl
 termination_by m=>m
theorem ref02_Both_eqW (n:Nat) (a b:List BS) (ha:a.length + b.length < 90000) (hn:100000 ≤ n):ref02_Both n a b = some (srt (a ++ b)):=by
 unfold ref02_Both
 have h1:=(gather (L:=ref02_Both_l1 n a b) a (fun acc x=>acc ++ [x]) id (fun i s=>s.length ≤ i) (by omega)
  (fun k s i h hs=>by rw [ref02_Both_l1,if_pos (lt_i h),if_pos (in_i h),at_i h,if_pos (cap_add (by simp; omega))])
  (fun s i h hs=>by simp; omega) (fun k s _=>by rw [ref02_Both_l1,nlt_n]; rfl) n 0 [] (by omega) (by omega) (by simp)).1
 have h2:=(gather (L:=ref02_Both_l2 n b) b (fun acc x=>acc ++ [x]) id (fun i s=>s.length ≤ a.length + i) (by omega)
  (fun k s i h hs=>by rw [ref02_Both_l2,if_pos (lt_i h),if_pos (in_i h),at_i h,if_pos (cap_add (by simp; omega))])
  (fun s i h hs=>by simp; omega) (fun k s _=>by rw [ref02_Both_l2,nlt_n]; rfl) n 0 a (by omega) (by omega) (by simp)).1
 rw [List.drop_zero,foldl_app (fun x=>[x])] at h1 h2
 have hf:∀ l:List BS,l.flatMap (fun x=>[x]) = l:=fun l=>by induction l <;> simp_all
 rw [hf] at h1 h2
 simp only [id,List.nil_append] at h1 h2
 rw [show (0:Int) = ((0:Nat):Int) from rfl,h1,Option.bind_some,h2,Option.bind_some,ref02_Sorted_eqW n _ (by simp; omega) hn]; rfl
abbrev Nd:=S_api_Node
abbrev Z8:Nd:=S_api_Node.mk 0 [] [] []
def Fit:Nat → Nd → Prop
 | 0,_=>False
 | d + 1,t=>t.f_Kids.length ≤ 2000 ∧ t.f_Keys.length ≤ 2000 ∧ (t.f_Kind ≠ 1 → t.f_Text = []) ∧ (t.f_Kind ≠ 3 → t.f_Keys = []) ∧ (t.f_Kind = 3 → t.f_Keys.length = t.f_Kids.length ∧ t.f_Keys.Nodup) ∧ (t.f_Kind < 2 → t.f_Kids = []) ∧ (0 ≤ t.f_Kind ∧ t.f_Kind ≤ 3) ∧ ∀ x ∈ t.f_Kids,Fit d x
def sz8:Nat → Nd → Nat
 | 0,_=>1
 | d + 1,t=>1 + (t.f_Kids.map (sz8 d)).sum
theorem sz8_pos:∀ d t,1 ≤ sz8 d t
 | 0,_=>Nat.le_refl 1
 | d + 1,t=>by unfold sz8; omega
def Shk (b:Nat):Nat → Nd → Prop
 | 0,_=>True
 | d + 1,t=>t.f_Text.length ≤ b ∧ (∀ k ∈ t.f_Keys,k.length ≤ b) ∧ ∀ x ∈ t.f_Kids,Shk b d x
theorem Shk.mono {b c:Nat} (hbc:b ≤ c):∀ {d:Nat} {t:Nd},Shk b d t → Shk c d t
 | 0,_,_=>trivial
 | d + 1,t,⟨h1,h2,h3⟩=>⟨Nat.le_trans h1 hbc,fun k hk=>Nat.le_trans (h2 k hk) hbc,fun x hx=>(h3 x hx).mono hbc⟩
theorem ins_has {x:BS}:∀ {l:List BS},Asc l → x ∈ l → (ins x l).length = l.length
 | [],_,h=>by cases h
 | y :: l,ha,h=>by
  obtain ⟨h1,h2⟩:=List.pairwise_cons.1 ha
  unfold ins
  split
  ·rename_i hx
   rcases List.mem_cons.1 h with e | hm
   ·subst e; exact (bs_irrefl _ hx).elim
   ·exact (bs_irrefl _ (bs_trans hx (h1 x hm))).elim
  ·split
   ·rfl
   ·rename_i hx hy
    rcases List.mem_cons.1 h with e | hm
    ·exact (hy e).elim
    ·rw [List.length_cons,ins_has h2 hm,List.length_cons]
theorem srt_nodup:∀ {l:List BS},(srt l).length = l.length → l.Nodup
 | [],_=>.nil
 | x :: l,h=>by
  have h0:srt (x :: l) = ins x (srt l):=rfl
  have h1:=srt_length_le l
  rw [h0,List.length_cons] at h
  by_cases hx:x ∈ srt l
  ·rw [ins_has (asc_srt l) hx] at h; omega
  ·have h2:=length_ins_le x (srt l)
   refine List.nodup_cons.2 ⟨fun hm=>hx (mem_srt.2 hm),srt_nodup (by omega)⟩
theorem left_loop (R:Nd → Int → Int → Option Int) (n d:Nat) (dep:Int) (t:Nd) (hdep:0 ≤ dep ∧ dep < 100)
  (hR:∀ x ∈ t.f_Kids,∀ l:Nat,l ≤ 2000 → ∃ r,R x (dep + 1) (l:Int) = some r ∧ (r = -1 ∨ ∃ q:Nat,r = (q:Int) ∧ Fit d x ∧ q + sz8 d x ≤ l)) :
  ∀ (k l i:Nat),l + 1 < k → i ≤ t.f_Kids.length → i + l ≤ 2000 →
   ref08_Left_l1 R n dep t k (l:Int) (i:Int) = some (.inr (-1)) ∨ ∃ q:Nat,ref08_Left_l1 R n dep t k (l:Int) (i:Int) = some (.inl (q:Int)) ∧ q + ((t.f_Kids.drop i).map (sz8 d)).sum ≤ l ∧ ∀ x ∈ t.f_Kids.drop i,Fit d x
 | 0,l,i,h,_,_=>by omega
 | k + 1,l,i,hk,hi,hil=>by
  by_cases h:i < t.f_Kids.length
  ·have e1:IntKind.wrap .i64 (dep + 1) = dep + 1:=wrap_id _ (by omega) (by omega)
   obtain ⟨r,h1,h2⟩:=hR t.f_Kids[i] (List.getElem_mem h) l (by omega)
   have hst:ref08_Left_l1 R n dep t (k + 1) (l:Int) (i:Int) = if (decide (r < 0)) = true then some (.inr (-1)) else ref08_Left_l1 R n dep t k r (IntKind.wrap .i64 ((i:Int) + 1)):=by
    rw [ref08_Left_l1,if_pos (lt_i h),if_pos (in_i h),at_i h,e1,h1]; rfl
   rw [hst]
   rcases h2 with rfl | ⟨q,rfl,hF,hq⟩
   ·exact .inl (if_pos rfl)
   ·have hp:=sz8_pos d t.f_Kids[i]
    rw [if_neg (by simp),wrap_s i (by omega)]
    rcases left_loop R n d dep t hdep hR k q (i + 1) (by omega) (by omega) (by omega) with h3 | ⟨q',h3,h4,h5⟩
    ·exact .inl h3
    ·refine .inr ⟨q',h3,?_,?_⟩
     ·rw [drop_at h,List.map_cons,List.sum_cons]; omega
     ·rw [drop_at h]
      intro x hx
      rcases List.mem_cons.1 hx with rfl | hx
      ·exact hF
      ·exact h5 x hx
  ·have:i = t.f_Kids.length:=by omega
   subst this
   refine .inr ⟨l,?_,?_,?_⟩
   ·rw [ref08_Left_l1,nlt_n]; rfl
   ·rw [List.drop_eq_nil_of_le (Nat.le_refl _)]; simp
   ·rw [List.drop_eq_nil_of_le (Nat.le_refl _)]; intro x hx; cases hx
theorem bif_or {a b:Bool}:(bif a then true else b) = (a || b):=by cases a <;> rfl
theorem bif_and {a b:Bool}:(bif a then b else false) = (a && b):=by cases a <;> rfl
theorem left_eq:∀ (d n:Nat) (t:Nd) (dep:Int) (l:Nat),dep + (d:Int) = 13 → 0 ≤ dep → l ≤ 2000 → 100000 + d < n →
  ∃ r,ref08_Left n t dep (l:Int) = some r ∧ (r = -1 ∨ ∃ q:Nat,r = (q:Int) ∧ Fit d t ∧ q + sz8 d t ≤ l)
 | _,0,_,_,_,_,_,_,h=>by omega
 | 0,n + 1,t,dep,l,hd,h0,hl,hn=>by
  refine ⟨-1,?_,.inl rfl⟩
  show ref08_Left_b (ref08_Left n) n t dep (l:Int) = _
  unfold ref08_Left_b
  have:decide (dep > 12) = true:=decide_eq_true (by omega)
  simp only [this,lett,bif_or,Bool.or_true,Bool.true_or,if_true]
 | d + 1,n + 1,t,dep,l,hd,h0,hl,hn=>by
  show ∃ r,ref08_Left_b (ref08_Left n) n t dep (l:Int) = some r ∧ _
  unfold ref08_Left_b
  have e1:IntKind.wrap .i64 ((l:Int) - 1) = (l:Int) - 1:=wrap_id _ (by omega) (by omega)
  simp only [lett,e1,bif_or,bif_and]
  by_cases c1:(decide ((l:Int) - 1 < 0) || decide (dep > 12) || decide (t.f_Kind < 0) || decide (t.f_Kind > 3)) = true
  ·exact ⟨-1,if_pos c1,.inl rfl⟩
  rw [if_neg c1]
  by_cases c2:((t.f_Kind != 1 && decide ((List.length t.f_Text:Int) > 0)) || (t.f_Kind != 3 && decide ((List.length t.f_Keys:Int) > 0)) || (decide (t.f_Kind < 2) && decide ((List.length t.f_Kids:Int) > 0))) = true
  ·exact ⟨-1,if_pos c2,.inl rfl⟩
  rw [if_neg c2]
  simp only [Bool.or_eq_true,Bool.and_eq_true,decide_eq_true_eq,bne_iff_ne,ne_eq,not_or,not_and,gt_iff_lt,Int.not_lt] at c1 c2
  obtain ⟨⟨⟨a1,a2⟩,a3⟩,a4⟩:=c1
  obtain ⟨⟨b1,b2⟩,b3⟩:=c2
  obtain ⟨l,rfl⟩:∃ l',l = l' + 1:=⟨l - 1,by omega⟩
  have e2:((l + 1:Nat):Int) - 1 = (l:Int):=by omega
  rw [e2]
  have loop:=left_loop (ref08_Left n) n d dep t (by omega) (fun x _ l' hl'=>left_eq d n x (dep + 1) l' (by omega) (by omega) hl' (by omega)) n l 0 (by omega) (Nat.zero_le _) (by omega)
  have fin:(t.f_Kind = 3 → t.f_Keys.length = t.f_Kids.length ∧ t.f_Keys.Nodup) → ∃ r,((ref08_Left_l1 (ref08_Left n) n dep t n (l:Int) 0).bind fun o5=>(Sum.elim (fun o5=>some o5) (fun o5=>some o5)) o5) = some r ∧ (r = -1 ∨ ∃ q:Nat,r = (q:Int) ∧ Fit (d + 1) t ∧ q + sz8 (d + 1) t ≤ l + 1):=by
   intro hk
   rcases loop with h3 | ⟨q,h3,h4,h5⟩
   ·have h3:ref08_Left_l1 (ref08_Left n) n dep t n (l:Int) 0 = _:=h3
    exact ⟨-1,by rw [h3]; rfl,.inl rfl⟩
   ·have h3:ref08_Left_l1 (ref08_Left n) n dep t n (l:Int) 0 = _:=h3
    rw [List.drop_zero] at h4 h5
    have hs:∀ (f:Nd → Nat) (m:List Nd),(∀ x,1 ≤ f x) → m.length ≤ (m.map f).sum:=by
     intro f m hf
     induction m with
     | nil=>exact Nat.le_refl 0
     | cons x m ih=>rw [List.map_cons,List.sum_cons,List.length_cons]; have:=hf x; omega
    have hkl:=hs (sz8 d) t.f_Kids (sz8_pos d)
    refine ⟨q,by rw [h3]; rfl,.inr ⟨q,rfl,⟨by omega,?_,fun h=>List.eq_nil_of_length_eq_zero (by have:=b1 h; omega),fun h=>List.eq_nil_of_length_eq_zero (by have:=b2 h; omega),hk,fun h=>List.eq_nil_of_length_eq_zero (by have:=b3 h; omega),⟨by omega,by omega⟩,h5⟩,?_⟩⟩
    ·by_cases h:t.f_Kind = 3
     ·have:=hk h; omega
     ·have:=b2 h; omega
    ·show q + (1 + (t.f_Kids.map (sz8 d)).sum) ≤ l + 1; omega
  by_cases h3:t.f_Kind = 3
  ·have e3:(t.f_Kind == 3) = true:=by rw [h3]; rfl
   rw [e3]
   by_cases c3:((List.length t.f_Keys:Int) != (List.length t.f_Kids:Int) || decide ((List.length t.f_Kids:Int) > (l:Int))) = true
   ·rw [c3]
    exact ⟨-1,rfl,.inl rfl⟩
   ·have c3':((List.length t.f_Keys:Int) != (List.length t.f_Kids:Int) || decide ((List.length t.f_Kids:Int) > (l:Int))) = false:=by simpa using c3
    rw [c3']
    simp only [Bool.or_eq_true,bne_iff_ne,ne_eq,decide_eq_true_eq,not_or,Decidable.not_not] at c3
    obtain ⟨c4,c5⟩:=c3
    have hso:=ref02_Sorted_eq n t.f_Keys (by omega) (by omega)
    simp only [beq_self_eq_true,Bool.and_self,if_true,hso,Option.bind_some,Bool.false_or,Bool.true_and]
    by_cases c6:((List.length (srt t.f_Keys):Int) != (List.length t.f_Keys:Int)) = true
    ·exact ⟨-1,if_pos c6,.inl rfl⟩
    ·rw [if_neg c6]
     simp only [bne_iff_ne,ne_eq,Decidable.not_not] at c6
     exact fin fun _=>⟨by omega,srt_nodup (by omega)⟩
  ·have e3:(t.f_Kind == 3) = false:=by rw [beq_eq_false_iff_ne]; exact h3
   rw [e3]
   simp only [Bool.false_and,Bool.and_false,Bool.false_eq_true,if_false,Option.bind_some,show (false == true) = false from rfl]
   exact fin fun h=>(h3 h).elim
theorem short_eq:∀ (d n:Nat) (t:Nd),Fit d t → 100000 + d < n → ∃ b,ref08_short n t = some b ∧ (b = true → Shk 200 d t)
 | _,0,_,_,h=>by omega
 | 0,n + 1,t,h,_=>h.elim
 | d + 1,n + 1,t,hF,hn=>by
  obtain ⟨f1,f2,_,_,_,_,_,f8⟩:=hF
  show ∃ b,ref08_short_b (ref08_short n) n t = some b ∧ _
  unfold ref08_short_b
  by_cases c:(List.length t.f_Text:Int) > 200
  ·exact ⟨false,by rw [if_pos (decide_eq_true c)],fun h=>by cases h⟩
  rw [if_neg (show ¬ decide ((List.length t.f_Text:Int) > 200) = true by simpa using c)]
  have l1:=scanL (L:=ref08_short_l1 (ref08_short n) n t) t.f_Keys (fun x=>if decide ((x.length:Int) > 200) = true then some false else none) 0 (by omega)
   (fun k i h _=>by
    rw [ref08_short_l1,if_pos (lt_i h),if_pos (in_i h),at_i h]
    cases decide ((t.f_Keys[i].length:Int) > 200) <;> rfl)
   (fun k=>by rw [ref08_short_l1,nlt_n]; rfl) n 0 (by omega) (by omega) (by omega)
  have l1:ref08_short_l1 (ref08_short n) n t n 0 = _:=l1
  rw [l1]
  rw [List.drop_zero]
  cases ho1:List.findSome? (fun x:BS=>if decide ((x.length:Int) > 200) = true then some false else none) t.f_Keys with
  | some r =>
   refine ⟨r,rfl,fun hr=>?_⟩
   obtain ⟨x,_,h2⟩:=List.exists_of_findSome?_eq_some ho1
   by_cases hb:decide ((x.length:Int) > 200) = true
   ·rw [if_pos hb] at h2; cases h2; cases hr
   ·rw [if_neg hb] at h2; cases h2
  | none =>
   have hx:∀ x ∈ t.f_Kids,∃ b,ref08_short n x = some b ∧ (b = true → Shk 200 d x):=fun x hx=>short_eq d n x (f8 x hx) (by omega)
   have l2:=scanL (L:=ref08_short_l2 (ref08_short n) n t) t.f_Kids (fun x=>if (!((ref08_short n x).getD false)) = true then some false else none) 0 (by omega)
    (fun k i h _=>by
     obtain ⟨b,h1,_⟩:=hx t.f_Kids[i] (List.getElem_mem h)
     rw [ref08_short_l2,if_pos (lt_i h),if_pos (in_i h),at_i h,h1]
     cases b <;> rfl)
    (fun k=>by rw [ref08_short_l2,nlt_n]; rfl) n 0 (by omega) (by omega) (by omega)
   have l2:ref08_short_l2 (ref08_short n) n t n 0 = _:=l2
   show ∃ b,((ref08_short_l2 (ref08_short n) n t n 0).bind fun o2=>(Sum.elim (fun _=>some true) (fun o2=>some o2)) o2) = some b ∧ _
   rw [l2,List.drop_zero]
   cases ho:List.findSome? (fun x=>if (!((ref08_short n x).getD false)) = true then some false else none) t.f_Kids with
   | some r =>
    refine ⟨r,rfl,fun hr=>?_⟩
    obtain ⟨x,_,h2⟩:=List.exists_of_findSome?_eq_some ho
    by_cases hb:(!((ref08_short n x).getD false)) = true
    ·rw [if_pos hb] at h2; cases h2; cases hr
    ·rw [if_neg hb] at h2; cases h2
   | none =>
    refine ⟨true,rfl,fun _=>⟨by omega,fun y hy=>?_,fun x hxm=>?_⟩⟩
    ·have h2:=List.findSome?_eq_none_iff.1 ho1 y hy
     by_cases hb:decide ((y.length:Int) > 200) = true
     ·rw [if_pos hb] at h2; cases h2
     ·have:¬ ((y.length:Int) > 200):=by simpa using hb
      omega
    have h2:=List.findSome?_eq_none_iff.1 ho x hxm
    obtain ⟨b,h1,h3⟩:=hx x hxm
    rw [h1] at h2
    cases b with
    | true=>exact h3 rfl
    | false=>cases h2
theorem small_eq (n:Nat) (t:Nd) (m:Nat) (hm:m ≤ 2000) (hn:200000 ≤ n):∃ b,ref08_Small n t (m:Int) = some b ∧ (b = true → Fit 12 t ∧ sz8 12 t ≤ m ∧ Shk 200 12 t):=by
 obtain ⟨r,h1,h2⟩:=left_eq 12 n t 1 m rfl (by decide) hm (by omega)
 unfold ref08_Small
 rw [h1,Option.bind_some]
 rcases h2 with rfl | ⟨q,rfl,hF,hq⟩
 ·exact ⟨false,rfl,fun h=>by cases h⟩
 ·obtain ⟨b,h3,h4⟩:=short_eq 12 n t hF (by omega)
  have e:decide ((q:Int) ≥ 0) = true:=decide_eq_true (by omega)
  rw [e,if_pos (by rfl),h3]
  exact ⟨b,by cases b <;> rfl,fun hb=>⟨hF,by omega,h4 hb⟩⟩
theorem eq_drop {l m:List BS} {i:Nat} (h1:i < l.length) (h2:i < m.length):(l.drop i = m.drop i) ↔ l[i] = m[i] ∧ l.drop (i + 1) = m.drop (i + 1):=by
 rw [drop_at h1,drop_at h2,List.cons.injEq]
theorem same_l {L:Nat → Int → Option (Sum Unit Bool)} (l m:List BS) (hlm:l.length = m.length) (hl:l.length < 10000)
  (hs:∀ k i (h:i < l.length) (h':i < m.length),L (k + 1) (i:Int) = if (!(l[i] == m[i])) = true then some (.inr false) else L k (IntKind.wrap .i64 ((i:Int) + 1)))
  (he:∀ k,L (k + 1) (l.length:Int) = some (.inl ())):∀ k i,i ≤ l.length → l.length - i < k → L k (i:Int) = some (if l.drop i = m.drop i then .inl () else .inr false)
 | 0,i,_,h=>by omega
 | k + 1,i,h1,h2=>by
  by_cases h:i < l.length
  ·have h':i < m.length:=by omega
   rw [hs k i h h']
   simp only [eq_drop h h']
   by_cases e:l[i] = m[i]
   ·simp only [e,beq_self_eq_true,Bool.not_true,Bool.false_eq_true,if_false,true_and]
    rw [wrap_s i (by omega)]
    exact same_l l m hlm hl hs he k (i + 1) (by omega) (by omega)
   ·simp [e]
  ·have:i = l.length:=by omega
   subst this
   rw [he,List.drop_eq_nil_of_le (Nat.le_refl _),List.drop_eq_nil_of_le (by omega),if_pos rfl]
theorem ref02_Same_eq (n:Nat) (l m:List BS) (hl:l.length < 10000) (hn:100000 ≤ n):ref02_Same n l m = some (decide (l = m)):=by
 unfold ref02_Same
 by_cases hlm:l.length = m.length
 ·have e:((List.length l:Int) != (List.length m:Int)) = false:=by simp [hlm]
  have:=same_l (L:=ref02_Same_l1 n l m) l m hlm hl
   (fun k i h h'=>by rw [ref02_Same_l1,if_pos (lt_i h),if_pos (in_i h),if_pos (in_i h'),at_i h,at_i h'])
   (fun k=>by rw [ref02_Same_l1,nlt_n]; rfl) n 0 (by omega) (by omega)
  rw [e,if_neg Bool.false_ne_true,show (0:Int) = ((0:Nat):Int) from rfl,this,List.drop_zero,List.drop_zero]
  by_cases h:l = m
  ·rw [if_pos h,decide_eq_true h]; rfl
  ·rw [if_neg h,decide_eq_false h]; rfl
 ·have e:((List.length l:Int) != (List.length m:Int)) = true:=by simpa using fun h=>hlm (by omega)
  rw [e,if_pos rfl,decide_eq_false (fun h=>hlm (congrArg List.length h))]
abbrev Er:=(Int × BS × BS) ⊕ BS
def exl (f:TP → Er):BS → List TP → Er
 | acc,[]=>.inr acc
 | acc,p :: l=>match f p with | .inl e=>.inl e | .inr t=>if 8192 < (acc ++ t).length then .inl (9,[],[]) else exl f (acc ++ t) l
def exP (e:List Vr) (R:List TP → Er) (Tm:List TP → BS) (p:TP):Er :=
 if p.f_Op = 0 then .inr p.f_Text else
 match firstV e p.f_Name with
 | none=>if p.f_Op = 2 ∨ p.f_Op = 3 then R p.f_Sub else if p.f_Op = 4 ∨ p.f_Op = 5 then .inl (4,p.f_Name,Tm p.f_Sub) else .inr []
 | some v=>if (p.f_Op = 2 ∧ v = []) ∨ (p.f_Op = 6 ∧ v ≠ []) ∨ p.f_Op = 7 then R p.f_Sub else if p.f_Op = 4 ∧ v = [] then .inl (4,p.f_Name,Tm p.f_Sub) else if 5 < p.f_Op then .inr [] else .inr v
def ex:Nat → List Vr → List TP → Er
 | 0,_,_=>.inr []
 | m + 1,e,l=>exl (exP e (ex m e) (T m)) [] l
def flt (f:Int × BS × BS):S_subst_fault:=⟨f.1,f.2.1,f.2.2⟩
theorem exl_le {f:TP → Er}:∀ {l:List TP} {acc t:BS},acc.length ≤ 8192 → exl f acc l = .inr t → t.length ≤ 8192
 | [],acc,t,h,he=>by cases he; exact h
 | p :: l,acc,t,h,he=>by
  rw [exl] at he
  split at he
  ·cases he
  ·split at he
   ·cases he
   ·exact exl_le (by omega) he
theorem ex_le {m:Nat} {e:List Vr} {l:List TP} {t:BS} (h:ex m e l = .inr t):t.length ≤ 8192:=by
 cases m with
 | zero=>cases h; exact Nat.zero_le _
 | succ m=>exact exl_le (Nat.zero_le _) h
theorem firstV_mem {e:List Vr} {x v:BS} (h:firstV e x = some v):∃ w ∈ e,w.f_Val = v:=by
 unfold firstV at h
 obtain ⟨w,h1,h2⟩:=Option.map_eq_some_iff.1 h
 exact ⟨w,List.mem_of_find?_eq_some h1,h2⟩
theorem exP_le {m:Nat} {e:List Vr} {p:TP} {t:BS} (he:∀ v ∈ e,v.f_Val.length ≤ 100) (hp:p.f_Op = 0 → p.f_Text.length ≤ 100000) (h:exP e (ex m e) (T m) p = .inr t):t.length ≤ 100000:=by
 unfold exP at h
 split at h
 ·rename_i h0; cases h; exact hp h0
 ·split at h
  ·split at h
   ·have:=ex_le h; omega
   ·split at h <;> cases h
    exact Nat.zero_le _
  ·rename_i v hv
   split at h
   ·have:=ex_le h; omega
   ·split at h
    ·cases h
    ·split at h <;> cases h
     ·exact Nat.zero_le _
     ·obtain ⟨w,h1,rfl⟩:=firstV_mem hv; have:=he w h1; omega
abbrev RS:=List TP → S_subst_with → Option (BS × S_subst_with)
abbrev PS:=List TP → S_subst_with → Option (S_subst_fault × S_subst_with)
def Says (R:RS) (P:PS) (e:List Vr) (l:List TP):Er → Prop
 | .inr t=>R l ⟨e⟩ = some (t,⟨e⟩)
 | .inl f=>R l ⟨e⟩ = none ∧ P l ⟨e⟩ = some (flt f,⟨e⟩)
def Say1 (R:RS) (P:PS) (n:Nat) (e:List Vr) (p:TP):Er → Prop
 | .inr t=>subst_with_part__o0 R n p ⟨e⟩ = some (t,⟨e⟩)
 | .inl f=>subst_with_part__o0 R n p ⟨e⟩ = none ∧ p_subst_with_part__o0 R P n p ⟨e⟩ = some (flt f,⟨e⟩)
theorem part_says (R:RS) (P:PS) (n m:Nat) (e:List Vr) (p:TP) (hs:p.f_Op ≠ 0 → Says R P e p.f_Sub (ex m e p.f_Sub)) (hT:p.f_Op ≠ 0 → tmpl_Text n p.f_Sub = some (T m p.f_Sub))
  (hop:p.f_Op = 0 ∨ ∃ op:Nat,p.f_Op = (op:Int) ∧ 1 ≤ op ∧ op ≤ 7) (hl:e.length ≤ 100000) (hn:e.length < n):Say1 R P n e p (exP e (ex m e) (T m) p):=by
 obtain ⟨nm,tx,o,sb⟩:=p
 simp only at hs hT hop
 by_cases h0:o = 0
 ·subst h0
  show subst_with_part__o0 R n _ ⟨e⟩ = some (tx,⟨e⟩)
  simp [subst_with_part__o0]
 ·obtain ⟨op,rfl,h1,h7⟩:=hop.resolve_left h0
  replace hs:=hs h0
  replace hT:=hT h0
  have hz:((op:Int) == 0) = false:=by simpa using h0
  unfold exP
  simp only [h0,if_false]
  have hg:=get_eq n e nm hl hn
  have key:∀ (x:Er),(∀ (r:BS × Bool),env_Get n e nm = some r → match x with
    | .inr t=>(subst_with_part__o0_j1 R n r.1 r.2 (bif r.2 then (!(r.1 == [])) else false) (op:Int) ⟨nm,tx,op,sb⟩ ⟨e⟩).bind (fun o2=>(Sum.elim (fun o2=>some (r.1,o2)) (fun o2=>some (o2.1,o2.2))) o2) = some (t,⟨e⟩)
    | .inl f=>subst_with_part__o0_j1 R n r.1 r.2 (bif r.2 then (!(r.1 == [])) else false) (op:Int) ⟨nm,tx,op,sb⟩ ⟨e⟩ = none ∧ p_subst_with_part__o0_j1 R P n r.1 r.2 (bif r.2 then (!(r.1 == [])) else false) (op:Int) ⟨nm,tx,op,sb⟩ ⟨e⟩ = some (flt f,⟨e⟩)) → Say1 R P n e ⟨nm,tx,op,sb⟩ x:=by
   intro x h
   cases x with
   | inr t =>
    show subst_with_part__o0 R n _ ⟨e⟩ = _
    unfold subst_with_part__o0
    rw [if_neg (by simpa using h0),hg,Option.bind_some]
    exact h _ hg
   | inl f =>
    refine ⟨?_,?_⟩
    ·unfold subst_with_part__o0
     rw [if_neg (by simpa using h0),hg,Option.bind_some]
     have:=(h _ hg).1
     simp only at this ⊢
     rw [this]; rfl
    ·unfold p_subst_with_part__o0
     rw [if_neg (by simpa using h0),hg,Option.bind_some]
     exact (h _ hg).2
  refine key _ fun r hr=>?_
  rw [hg] at hr
  cases hr
  have ho:op = 1 ∨ op = 2 ∨ op = 3 ∨ op = 4 ∨ op = 5 ∨ op = 6 ∨ op = 7:=by omega
  cases hx:ex m e sb with
  | inr t =>
   rw [hx] at hs
   have hs:R sb ⟨e⟩ = some (t,⟨e⟩):=hs
   cases hf:firstV e nm with
   | none=>rcases ho with rfl | rfl | rfl | rfl | rfl | rfl | rfl <;> simp [subst_with_part__o0_j1,subst_with_part__o0_j2,subst_with_part__o0_j3,p_subst_with_part__o0_j1,hs,hx,hT,flt]
   | some v=>rcases ho with rfl | rfl | rfl | rfl | rfl | rfl | rfl <;> by_cases hv:v = [] <;> simp [subst_with_part__o0_j1,subst_with_part__o0_j2,subst_with_part__o0_j3,p_subst_with_part__o0_j1,hs,hx,hT,hv,flt]
  | inl f =>
   rw [hx] at hs
   obtain ⟨hs,hp⟩:R sb ⟨e⟩ = none ∧ P sb ⟨e⟩ = some (flt f,⟨e⟩):=hs
   cases hf:firstV e nm with
   | none=>rcases ho with rfl | rfl | rfl | rfl | rfl | rfl | rfl <;> simp [subst_with_part__o0_j1,subst_with_part__o0_j2,subst_with_part__o0_j3,p_subst_with_part__o0_j1,hs,hp,hx,hT,flt]
   | some v=>rcases ho with rfl | rfl | rfl | rfl | rfl | rfl | rfl <;> by_cases hv:v = [] <;> simp [subst_with_part__o0_j1,subst_with_part__o0_j2,subst_with_part__o0_j3,p_subst_with_part__o0_j1,hs,hp,hx,hT,hv,flt]
theorem says_l1 (R:RS) (P:PS) (n m:Nat) (e:List Vr) (l:List TP) (hN:l.length < 1000000) (hh:∀ p ∈ l,Say1 R P n e p (exP e (ex m e) (T m) p)) (ht:∀ p ∈ l,∀ t,exP e (ex m e) (T m) p = .inr t → t.length ≤ 100000) :
  ∀ (k i:Nat) (acc:BS),i ≤ l.length → l.length - i < k → acc.length ≤ 8192 → match exl (exP e (ex m e) (T m)) acc (l.drop i) with
   | .inr t=>subst_with_parts__o0_l1 R n l (l.length:Int) k acc (i:Int) ⟨e⟩ = some (t,⟨e⟩)
   | .inl f=>subst_with_parts__o0_l1 R n l (l.length:Int) k acc (i:Int) ⟨e⟩ = none ∧ p_subst_with_parts__o0_l1 R P n l (l.length:Int) k acc (i:Int) ⟨e⟩ = some (flt f,⟨e⟩)
 | 0,i,_,_,h,_=>by omega
 | k + 1,i,acc,h1,h2,h3=>by
  by_cases h:i < l.length
  ·rw [drop_at h,exl,subst_with_parts__o0_l1,p_subst_with_parts__o0_l1,if_pos (lt_i h),if_pos (lt_i h)]
   have hp:=hh l[i] (List.getElem_mem h)
   have hle:=ht l[i] (List.getElem_mem h)
   unfold subst_with_parts__o0_j2 p_subst_with_parts__o0_j2
   rw [if_pos (in_i h),at_i h]
   cases hx:exP e (ex m e) (T m) l[i] with
   | inl f =>
    rw [hx] at hp
    obtain ⟨q1,q2⟩:=hp
    rw [q1]
    simp only [Option.bind_none,true_and]
    rw [if_pos (in_i h)]
    exact q2
   | inr t =>
    rw [hx] at hp
    have q1:subst_with_part__o0 R n l[i] ⟨e⟩ = some (t,⟨e⟩):=hp
    have q2:=hle t hx
    have hc:decide ((List.length acc + List.length t) * (1 + 1) ≤ limit) = true:=decide_eq_true (by show (acc.length + t.length) * (1 + 1) ≤ 140737488355328; omega)
    rw [q1,Option.bind_some]
    simp only [hc,if_true]
    by_cases hb:8192 < (acc ++ t).length
    ·rw [if_pos hb,if_pos (decide_eq_true (by omega))]
     simp only [Option.bind_none,true_and,if_pos (in_i h)]
     rw [if_pos (decide_eq_true (by omega))]
     rfl
    ·rw [if_neg hb,if_neg (by simp only [decide_eq_true_eq]; omega),Option.bind_some]
     simp only
     rw [wrap_s i (by omega)]
     exact says_l1 R P n m e l hN hh ht k (i + 1) (acc ++ t) (by omega) (by omega) (by omega)
  ·have hi:i = l.length:=by omega
   subst hi
   rw [List.drop_eq_nil_of_le (Nat.le_refl _),exl,subst_with_parts__o0_l1,nlt_n]
   rfl
theorem parts_say (e:List Vr) (he:∀ v ∈ e,v.f_Val.length ≤ 100) (hl:e.length ≤ 100000):∀ (m d n:Nat) (l:List TP),d + m = 9 → 1 ≤ d → V d l → (T (m + 1) l).length ≤ 100000 → 100002 + m ≤ n →
  Says (subst_with_parts__o0 n) (p_subst_with_parts__o0 n) e l (ex (m + 1) e l)
 | m,d,n,l,hdm,hd,hV,hT,hn=>by
  obtain ⟨n,rfl⟩:∃ n',n = n' + 1:=⟨n - 1,by omega⟩
  have hmem:=V_mem hV
  have hlen:=V_len hV m
  have hsub:∀ p ∈ l,p.f_Op ≠ 0 → ∃ m',m = m' + 1 ∧ V (d + 1) p.f_Sub ∧ (T m p.f_Sub).length ≤ 100000:=by
   intro p hp h0
   obtain ⟨h8,op,o1,o2,o3,o4,o5⟩:=(hmem p hp).resolve_left (fun h=>h0 h.1)
   have:=sub_le m hp h0
   exact ⟨m - 1,by omega,o4,by omega⟩
  have h1:=says_l1 (subst_with_parts__o0 n) (p_subst_with_parts__o0 n) n m e l (by omega) (fun p hp=>part_says _ _ n m e p (fun h0=>by
    obtain ⟨m',rfl,h3,h4⟩:=hsub p hp h0
    exact parts_say e he hl m' (d + 1) n p.f_Sub (by omega) (by omega) h3 h4 (by omega)) (fun h0=>by
    obtain ⟨m',rfl,h3,h4⟩:=hsub p hp h0
    exact Text_eq m' (d + 1) n p.f_Sub (by omega) (by omega) h3 h4 (by omega)) ((hmem p hp).elim (fun h=>.inl h.1) fun ⟨_,op,a,b,c,_,_⟩=>.inr ⟨op,a,b,c⟩) hl (by omega)) (fun p hp t ht=>exP_le he (fun h0=>by
    have h5:=pc_le m hp
    rw [pc,if_pos h0] at h5
    have:=(escS_len p.f_Text).1
    omega) ht) n 0 [] (by omega) (by omega) (Nat.zero_le _)
  rw [List.drop_zero] at h1
  have hexd:ex (m + 1) e l = exl (exP e (ex m e) (T m)) [] l:=rfl
  rw [hexd]
  cases hx:exl (exP e (ex m e) (T m)) [] l with
  | inr t =>
   rw [hx] at h1
   show subst_with_parts__o0_b (subst_with_parts__o0 n) n l ⟨e⟩ = _
   unfold subst_with_parts__o0_b
   have h1:subst_with_parts__o0_l1 (subst_with_parts__o0 n) n l (l.length:Int) n [] 0 ⟨e⟩ = some (t,⟨e⟩):=h1
   rw [h1]; rfl
  | inl f =>
   rw [hx] at h1
   obtain ⟨h1,h2⟩:=h1
   have h1:subst_with_parts__o0_l1 (subst_with_parts__o0 n) n l (l.length:Int) n [] 0 ⟨e⟩ = none:=h1
   refine ⟨?_,h2⟩
   show subst_with_parts__o0_b (subst_with_parts__o0 n) n l ⟨e⟩ = _
   unfold subst_with_parts__o0_b
   rw [h1]; rfl
 termination_by m=>m
theorem expand_eq (n:Nat) (e:List Vr) (he:∀ v ∈ e,v.f_Val.length ≤ 100) (hl:e.length ≤ 100000) (l:List TP) (hV:V 1 l) (hT:(T 9 l).length ≤ 100000) (hn:200000 ≤ n) :
  subst_expand n l e = some (match ex 9 e l with | .inr t=>(t,⟨0,[],[]⟩) | .inl f=>([],flt f)):=by
 have h:=parts_say e he hl 8 1 n l rfl (Nat.le_refl _) hV hT (by omega)
 unfold subst_expand
 cases hx:ex 9 e l with
 | inr t =>
  rw [hx] at h
  have h:subst_with_parts__o0 n l ⟨e⟩ = some (t,⟨e⟩):=h
  rw [h]
 | inl f =>
  rw [hx] at h
  obtain ⟨h1,h2⟩:=h
  rw [h1]
  simp only
  rw [h2]; rfl
theorem ex_code:∀ (m:Nat) (e:List Vr) (l:List TP) (f:Int × BS × BS),ex m e l = .inl f → f.1 = 4 ∨ f.1 = 9
 | 0,e,l,f,h=>by cases h
 | m + 1,e,l,f,h=>by
  have h1:∀ p,exP e (ex m e) (T m) p = .inl f → f.1 = 4 ∨ f.1 = 9:=by
   intro p hp
   unfold exP at hp
   split at hp
   ·cases hp
   ·split at hp
    ·split at hp
     ·exact ex_code m e _ f hp
     ·split at hp <;> cases hp
      exact .inl rfl
    ·split at hp
     ·exact ex_code m e _ f hp
     ·split at hp
      ·cases hp; exact .inl rfl
      ·split at hp <;> cases hp
  have h2:∀ (l:List TP) (acc:BS),exl (exP e (ex m e) (T m)) acc l = .inl f → f.1 = 4 ∨ f.1 = 9:=by
   intro l
   induction l with
   | nil=>intro acc h; cases h
   | cons p l ih =>
    intro acc h
    rw [exl] at h
    split at h
    ·rename_i e' he; cases h; exact h1 p he
    ·split at h
     ·cases h; exact .inr rfl
     ·exact ih _ h
  exact h2 l [] h
end Go.Proofs.YtibgdilkodjojaaGreatDoor.M
