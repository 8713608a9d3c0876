import Derived.Test.YtibgdilkodjojaaDoorQP14C
set_option linter.all false
namespace Go.Proofs.YtibgdilkodjojaaDoor.M
open Go Go.Proofs.YtibgdilkodjojaaDoor.RX Go.Proofs.YtibgdilkodjojaaDoor.PL
set_option maxRecDepth 100000
theorem findSome_any {α:Type} (p:α → Bool):∀ l:List α,l.findSome? (fun x=>if p x = true then some true else none) = if l.any p = true then some true else none
 | []=>rfl
 | x :: l=>by rw [List.findSome?_cons,List.any_cons,findSome_any p l]; cases p x <;> simp
theorem any_beq (s:BS):∀ l:List BS,l.any (fun x=>x == s) = l.contains s
 | []=>rfl
 | x :: l=>by
  rw [List.any_cons,List.contains_cons,any_beq s l]
  congr 1
  rw [Bool.eq_iff_iff,beq_iff_eq,beq_iff_eq]; exact eq_comm
theorem ref02_In_eq (n:Nat) (l:List BS) (s:BS) (hl:l.length < 10000) (hn:100000 ≤ n):ref02_In n l s = some (l.contains s):=by
 unfold ref02_In
 have:=scanL (L:=ref02_In_l1 n l s) l (fun x=>if (x == s) = true then some true else none) 0 (by omega)
  (fun k i h _=>by
   rw [ref02_In_l1,if_pos (lt_i h),if_pos (in_i h),at_i h]
   cases l[i] == s <;> rfl)
  (fun k=>by rw [ref02_In_l1,nlt_n]; rfl) n 0 (by omega) (by omega) (by omega)
 rw [show (0:Int) = ((0:Nat):Int) from rfl,this,List.drop_zero,findSome_any,any_beq]
 cases l.contains s <;> rfl
theorem Parse_T (n:Nat) (l:List TP) (hn:200000 ≤ n) (hV:V 1 l) (hl:(T 9 l).length ≤ 100000):tmpl_Parse n (T 9 l) = some (N [] l,0):=by
 refine Parse_of n _ _ hn hl ?_
 have:=V_Ps hV (by omega) (by omega) [] [] (.inl rfl)
 rw [List.append_nil] at this
 exact this
theorem ex_agree {e e':List Vr}:∀ (m:Nat) (l:List TP),(∀ x ∈ nms m l,firstV e x = firstV e' x) → ex m e l = ex m e' l
 | 0,_,_=>rfl
 | m + 1,l,h=>by
  have hp:∀ p ∈ l,exP e (ex m e) (T m) p = exP e' (ex m e') (T m) p:=by
   intro p hp
   have hn:∀ x ∈ nm1 m p,firstV e x = firstV e' x:=fun x hx=>h x (by rw [nms_eq]; exact List.mem_flatMap.2 ⟨p,hp,hx⟩)
   by_cases h0:p.f_Op = 0
   ·unfold exP; rw [if_pos h0,if_pos h0]
   ·have h1:=hn p.f_Name (by unfold nm1; rw [if_neg h0]; simp)
    have h2:=ex_agree m p.f_Sub fun x hx=>hn x (by unfold nm1; exact List.mem_append_right _ hx)
    unfold exP
    rw [if_neg h0,if_neg h0,h1,h2]
  have:∀ (l:List TP) (acc:BS),(∀ p ∈ l,exP e (ex m e) (T m) p = exP e' (ex m e') (T m) p) → exl (exP e (ex m e) (T m)) acc l = exl (exP e' (ex m e') (T m)) acc l:=by
   intro l
   induction l with
   | nil=>intro acc _; rfl
   | cons p l ih =>
    intro acc hh
    rw [exl,exl,hh p (by simp)]
    have:=fun acc=>ih acc fun q hq=>hh q (List.mem_cons_of_mem _ hq)
    simp only [this]
  exact this l [] hp
theorem exl_app (f:TP → Er):∀ (l:List TP) (acc:BS) (k:List TP),exl f acc (l ++ k) = match exl f acc l with | .inl e=>.inl e | .inr t=>exl f t k
 | [],_,_=>rfl
 | p :: l,acc,k=>by
  rw [List.cons_append,exl,exl]
  cases f p with
  | inl e=>rfl
  | inr t =>
   simp only
   by_cases h:8192 < (acc ++ t).length
   ·rw [if_pos h,if_pos h]
   ·rw [if_neg h,if_neg h]; exact exl_app f l _ k
theorem exl_N {f:TP → Er} (hf:∀ p:TP,p.f_Op = 0 → f p = .inr p.f_Text):∀ (l:List TP) (w acc:BS),acc.length ≤ 8192 → exl f acc (N w l) = if 8192 < (acc ++ w).length then .inl (9,[],[]) else exl f (acc ++ w) l
 | [],w,acc,ha=>by
  show exl f acc (fl w) = _
  unfold fl
  by_cases h:w = []
  ·subst h; rw [if_pos rfl,List.append_nil,if_neg (by omega)]
  ·rw [if_neg h]; simp only [exl,hf ⟨[],w,0,[]⟩ rfl]
 | p :: l,w,acc,ha=>by
  by_cases h0:p.f_Op = 0
  ·rw [N,if_pos h0,exl_N hf l _ acc ha,exl,hf p h0]
   simp only [List.append_assoc]
   by_cases h:8192 < (acc ++ w).length
   ·rw [if_pos h,if_pos (by simp only [List.length_append] at h ⊢; omega)]
   ·rw [if_neg h]
  ·rw [N,if_neg h0]
   have key:∀ acc:BS,acc.length ≤ 8192 → exl f acc (p :: N [] l) = exl f acc (p :: l):=by
    intro acc ha
    rw [exl,exl]
    cases f p with
    | inl e=>rfl
    | inr t =>
     simp only
     by_cases h:8192 < (acc ++ t).length
     ·rw [if_pos h,if_pos h]
     ·rw [if_neg h,if_neg h,exl_N hf l [] _ (by omega),List.append_nil,if_neg h]
   unfold fl
   by_cases h:w = []
   ·subst h; rw [if_pos rfl,List.nil_append,List.append_nil,if_neg (by omega)]; exact key acc ha
   ·rw [if_neg h,List.singleton_append,exl,hf ⟨[],w,0,[]⟩ rfl]
    simp only
    by_cases hb:8192 < (acc ++ w).length
    ·rw [if_pos hb,if_pos hb]
    ·rw [if_neg hb,if_neg hb]; exact key _ (by omega)
theorem exl_pre (f:TP → Er) (x:BS):∀ (l:List TP) (acc:BS),match exl f acc l with
  | .inr z=>exl f (x ++ acc) l = (if l = [] ∨ (x ++ z).length ≤ 8192 then .inr (x ++ z) else .inl (9,[],[]))
  | .inl e=>exl f (x ++ acc) l = .inl e ∨ exl f (x ++ acc) l = .inl (9,[],[])
 | [],acc=>by simp [exl]
 | p :: l,acc=>by
  rw [exl]
  cases hp:f p with
  | inl e=>left; rw [exl,hp]
  | inr t =>
   simp only
   have ih:=exl_pre f x l (acc ++ t)
   have he:exl f (x ++ acc) (p :: l) = if 8192 < (x ++ (acc ++ t)).length then .inl (9,[],[]) else exl f (x ++ (acc ++ t)) l:=by
    rw [exl,hp]; simp only [List.append_assoc]
   by_cases h:8192 < (acc ++ t).length
   ·rw [if_pos h]
    right
    rw [he,if_pos (by simp only [List.length_append] at h ⊢; omega)]
   ·rw [if_neg h]
    cases hx:exl f (acc ++ t) l with
    | inl e =>
     rw [hx] at ih
     simp only at ih ⊢
     rw [he]
     split
     ·exact .inr rfl
     ·exact ih
    | inr z =>
     rw [hx] at ih
     simp only at ih ⊢
     rw [he,ih]
     have hz:(acc ++ t).length ≤ z.length:=by
      clear ih he h
      have:∀ (l:List TP) (acc z:BS),exl f acc l = .inr z → acc.length ≤ z.length:=by
       intro l
       induction l with
       | nil=>intro acc z h; cases h; exact Nat.le_refl _
       | cons q l ih =>
        intro acc z h
        rw [exl] at h
        split at h
        ·cases h
        ·split at h
         ·cases h
         ·have:=ih _ _ h; rw [List.length_append] at this; omega
      exact this l _ z hx
     have hnil:¬ (p :: l = []):=by simp
     by_cases hb:8192 < (x ++ (acc ++ t)).length
     ·rw [if_pos hb,if_neg (by simp only [hnil,false_or,List.length_append] at hb ⊢; simp only [List.length_append] at hz; omega)]
     ·rw [if_neg hb]
      by_cases hl:l = []
      ·subst hl
       cases hx
       rw [if_pos (.inl rfl),if_pos (.inr (by omega))]
      ·simp only [hl,hnil,false_or]
theorem gat_first (L:List Vr) (x:BS):firstV (gat L) x = lastV L x:=by
 have hg:∀ ks:List BS,firstV (ks.map fun k=>(⟨k,(lastV L k).getD []⟩:Vr)) x = if x ∈ ks then some ((lastV L x).getD []) else none:=by
  intro ks
  induction ks with
  | nil=>rfl
  | cons k ks ih =>
   rw [List.map_cons,firstV_cons,ih]
   by_cases h:k = x
   ·subst h; simp
   ·simp only [h,if_false,List.mem_cons]
    by_cases h2:x ∈ ks
    ·rw [if_pos h2,if_pos (.inr h2)]
    ·rw [if_neg h2,if_neg (fun h3=>h3.elim (fun e=>h e.symm) h2)]
 unfold gat
 rw [hg]
 by_cases h:x ∈ L.map (·.f_Key)
 ·rw [if_pos (mem_srt.2 h)]
  obtain ⟨v,hv⟩:=lastV_some h
  rw [hv]; rfl
 ·rw [if_neg (fun h2=>h (mem_srt.1 h2)),lastV_none h]
theorem of_first (L:List Vr) (hl:L.length ≤ 64) (x:BS):firstV (of12 L) x = lastV (vl L) x:=by
 unfold of12
 have h1:=gat_len (vl L)
 have h2:=vl_len L
 rw [List.take_of_length_le (by omega),gat_first]
theorem lastV_app (A B:List Vr) (x:BS):lastV (A ++ B) x = (lastV B x).or (lastV A x):=by
 unfold lastV
 rw [List.reverse_append,List.find?_append]
 cases B.reverse.find? (fun v=>v.f_Key == x) <;> rfl
theorem lastV_filter (q:BS → Bool) (A:List Vr) (x:BS):lastV (A.filter fun v=>q v.f_Key) x = if q x = true then lastV A x else none:=by
 unfold lastV
 rw [← List.filter_reverse]
 generalize A.reverse = r
 induction r with
 | nil=>simp
 | cons v r ih =>
  rw [List.filter_cons,List.find?_cons]
  by_cases hk:v.f_Key = x
  ·rw [show (v.f_Key == x) = true by rw [hk]; exact beq_self_eq_true _]
   by_cases hq:q x = true
   ·rw [if_pos (by rw [hk]; exact hq),List.find?_cons,show (v.f_Key == x) = true by rw [hk]; exact beq_self_eq_true _,if_pos hq]
   ·rw [if_neg (by rw [hk]; exact hq),ih,if_neg hq,if_neg hq]
  ·rw [show (v.f_Key == x) = false by rw [beq_eq_false_iff_ne]; exact hk]
   simp only
   split
   ·rw [List.find?_cons,show (v.f_Key == x) = false by rw [beq_eq_false_iff_ne]; exact hk]; exact ih
   ·exact ih
theorem other_first (names:List BS) (a more:List Vr) (ha:a.length ≤ 20) (hm:more.length ≤ 20) (x:BS) (hx:x ∈ names) :
  firstV (of12 (more.filter (fun v=>!(names.contains v.f_Key)) ++ (of12 a).filter fun v=>names.contains v.f_Key)) x = firstV (of12 a) x:=by
 have h1:=List.length_filter_le (fun v:Vr=>!(names.contains v.f_Key)) more
 have h2:=List.length_filter_le (fun v:Vr=>names.contains v.f_Key) (of12 a)
 have h3:(of12 a).length ≤ 20:=by
  unfold of12
  rw [List.length_take]
  have:=gat_len (vl a)
  have:=vl_len a
  omega
 have hc:names.contains x = true:=by simpa using hx
 rw [of_first _ (by rw [List.length_append]; omega)]
 have hv:∀ A B:List Vr,vl (A ++ B) = vl A ++ vl B:=fun A B=>List.filter_append ..
 rw [hv,lastV_app]
 have e1:lastV (vl (more.filter fun v=>!(names.contains v.f_Key))) x = none:=by
  unfold vl
  rw [lastV_filter,lastV_filter (fun k=>!(names.contains k)),hc]
  simp
 have hnd:=(of_asc a).nodup
 have e2:lastV (vl ((of12 a).filter fun v=>names.contains v.f_Key)) x = firstV (of12 a) x:=by
  unfold vl
  rw [lastV_filter,lastV_filter (fun k=>names.contains k),hc,if_pos rfl,first_last hnd]
  by_cases hq:isName va1 va2 x = true
  ·rw [if_pos hq]
  ·rw [if_neg hq]
   symm
   refine lastV_none fun hmem=>hq ?_
   obtain ⟨v,hv1,rfl⟩:=List.mem_map.1 hmem
   have h4:v.f_Key ∈ (of12 a).map (·.f_Key):=hmem
   unfold of12 at h4
   rw [List.map_take,gat_keys] at h4
   obtain ⟨w,hw,hw2⟩:=List.mem_map.1 (mem_srt.1 (List.mem_of_mem_take h4))
   rw [← hw2]; exact vl_short a w hw
 rw [e1,e2]
 cases firstV (of12 a) x <;> rfl
theorem awake14:law14_awake 200000 = some true:=by kernel_rfl
theorem filt_l1 (n:Nat) (l k:List TP) (v13:List Vr) (names:List BS) (a:List Vr) (ha:a.length ≤ 100) (hk:names.length < 10000) (hn:100000 ≤ n):law14_SubstAgree_l1 n a l k v13 names n [] 0 = some (a.filter fun v=>!(names.contains v.f_Key)):=by
 have:=(gather (L:=law14_SubstAgree_l1 n a l k v13 names) a (fun (acc:List Vr) v=>if (!(names.contains v.f_Key)) = true then acc ++ [v] else acc) id (fun i acc=>acc.length ≤ i) (by omega)
  (fun k acc i h hI=>by
   rw [law14_SubstAgree_l1,if_pos (lt_i h)]
   unfold law14_SubstAgree_j2
   rw [if_pos (in_i h),at_i h,ref02_In_eq n names _ hk hn,Option.bind_some]
   cases names.contains a[i].f_Key with
   | true=>rfl
   | false=>simp only [Bool.not_false,if_true,if_pos (in_i h),if_pos (cap33 (by simp; omega):decide ((List.length acc + List.length ([a[i]]:List Vr)) * (32 + 1) ≤ limit) = true),Option.bind_some])
  (fun acc i h hI=>by
   show (if (!(names.contains a[i].f_Key)) = true then acc ++ [a[i]] else acc).length ≤ i + 1
   split
   ·rw [List.length_append]; exact Nat.succ_le_succ hI
   ·omega)
  (fun k acc _=>by rw [law14_SubstAgree_l1,nlt_n]; rfl) n 0 [] (by omega) (by omega) (by simp)).1
 rw [show (0:Int) = ((0:Nat):Int) from rfl,this,List.drop_zero,foldl_filter]
 simp
theorem filt_l3 (n:Nat) (l k:List TP) (v13:List Vr) (names:List BS) (s0:List Vr) (ha:v13.length ≤ 100) (hs:s0.length ≤ 100) (hk:names.length < 10000) (hn:100000 ≤ n):law14_SubstAgree_l3 n l k v13 names n s0 0 = some (s0 ++ v13.filter fun v=>names.contains v.f_Key):=by
 have:=(gather (L:=law14_SubstAgree_l3 n l k v13 names) v13 (fun (acc:List Vr) v=>if (names.contains v.f_Key) = true then acc ++ [v] else acc) id (fun i acc=>acc.length ≤ 100 + i) (by omega)
  (fun k acc i h hI=>by
   rw [law14_SubstAgree_l3,if_pos (lt_i h)]
   unfold law14_SubstAgree_j4
   rw [if_pos (in_i h),at_i h,ref02_In_eq n names _ hk hn,Option.bind_some]
   cases names.contains v13[i].f_Key with
   | false=>rfl
   | true=>simp only [if_true,if_pos (in_i h),if_pos (cap33 (by simp; omega):decide ((List.length acc + List.length ([v13[i]]:List Vr)) * (32 + 1) ≤ limit) = true),Option.bind_some])
  (fun acc i h hI=>by
   show (if (names.contains v13[i].f_Key) = true then acc ++ [v13[i]] else acc).length ≤ 100 + (i + 1)
   split
   ·rw [List.length_append]; have:[v13[i]].length = 1:=rfl; omega
   ·omega)
  (fun k acc _=>by rw [law14_SubstAgree_l3,nlt_n]; rfl) n 0 s0 (by omega) (by omega) (by omega)).1
 rw [show (0:Int) = ((0:Nat):Int) from rfl,this,List.drop_zero,foldl_filter]
 rfl
theorem Expand_eq (n:Nat) (e:List Vr) (he:∀ v ∈ e,v.f_Val.length ≤ 100) (hl:e.length ≤ 100000) (l:List TP) (hV:V 1 l) (hT:(T 9 l).length ≤ 100000) (hn:200000 ≤ n) :
  subst_Expand n l e = some (match ex 9 e l with | .inr t=>(t,0) | .inl f=>([],f.1)):=by
 unfold subst_Expand
 rw [expand_eq n e he hl l hV hT hn,Option.bind_some]
 cases ex 9 e l <;> rfl
theorem law14_SubstAgree_true (a0:BS) (_:List.length a0 ≤ maxLen) (a1:BS) (_:List.length a1 ≤ maxLen) (a2:List Vr) (_:W_Lapi_Var a2) (a3:List Vr) (_:W_Lapi_Var a3):∃ n,law14_SubstAgree n a0 a1 a2 a3 = some true:=by
 obtain ⟨n,hn,haw⟩:∃ n,n = 200000 ∧ law14_awake n = some true:=⟨200000,rfl,awake14⟩
 refine ⟨n,?_⟩
 obtain ⟨p,p1,p2⟩:=few12 n a2 20 (by omega) (by omega)
 obtain ⟨q,q1,q2⟩:=few12 n a3 20 (by omega) (by omega)
 have p1:law12_Few n a2 20 = some p:=p1
 have q1:law12_Few n a3 20 = some q:=q1
 unfold law14_SubstAgree
 by_cases hb:(bif (decide ((List.length a0:Int) > 400)) then true else (decide ((List.length a1:Int) > 400))) = true
 ·rw [hb,if_neg (by decide),Option.bind_some]
  simp only [cond_true,Bool.true_eq_false,decide_false,lett,if_true,haw]
  rfl
 ·have h0:a0.length ≤ 400:=by
   apply Classical.byContradiction; intro h; apply hb
   rw [decide_eq_true (show (a0.length:Int) > 400 by omega)]; rfl
  have h1:a1.length ≤ 400:=by
   apply Classical.byContradiction; intro h; apply hb
   rw [decide_eq_true (show (a1.length:Int) > 400 by omega)]; cases decide ((List.length a0:Int) > 400) <;> rfl
  have hb':(bif (decide ((List.length a0:Int) > 400)) then true else (decide ((List.length a1:Int) > 400))) = false:=by simpa using hb
  rw [hb',if_pos (by decide),p1,Option.bind_some]
  cases p with
  | false=>simp only [cond_false,Bool.not_false,lett,if_true,haw,Bool.true_eq_false,if_false,Option.bind_some,beq_iff_eq]; rfl
  | true =>
   rw [if_pos (by decide),q1,Option.bind_some]
   cases q with
   | false=>simp only [cond_false,Bool.not_false,Bool.not_true,lett,if_true,haw,Option.bind_some]
   | true =>
    obtain ⟨a2l,a2v⟩:=p2 rfl
    obtain ⟨a3l,a3v⟩:=q2 rfl
    simp only [cond_false,Bool.not_true,lett,Bool.false_eq_true,if_false]
    obtain ⟨l,e,l1,l2,l3⟩:=Parse_ok n a0 (by omega) (by omega)
    obtain ⟨k,f,k1,k2,k3⟩:=Parse_ok n a1 (by omega) (by omega)
    rw [l1,Option.bind_some,k1,Option.bind_some]
    by_cases hef:(bif (e != 0) then true else (f != 0)) = true
    ·rw [if_pos hef,haw]; rfl
    ·rw [if_neg hef]
     have he:e = 0:=by apply Classical.byContradiction; intro h; apply hef; rw [show (e != 0) = true by simpa using h]; rfl
     have hf:f = 0:=by apply Classical.byContradiction; intro h; apply hef; rw [show (f != 0) = true by simpa using h]; cases (e != 0) <;> rfl
     have hP:=l2 he
     have hQ:=k2 hf
     obtain ⟨hV,hN⟩:=Ps_form hP
     obtain ⟨kV,kN⟩:=Ps_form hQ
     have hT:(T 9 l).length ≤ 3 * a0.length:=by have:=(Ps_len hP (by omega) (by omega)).2; simpa using this
     have kT:(T 9 k).length ≤ 3 * a1.length:=by have:=(Ps_len hQ (by omega) (by omega)).2; simpa using this
     have hTe:=Text_eq 8 1 n l (by omega) (by omega) hV (by show (T 9 l).length ≤ _; omega) (by omega)
     have kTe:=Text_eq 8 1 n k (by omega) (by omega) kV (by show (T 9 k).length ≤ _; omega) (by omega)
     have hNm:=Names_eq 8 1 n l (by omega) (by omega) hV (by show (T 9 l).length ≤ _; omega) (by omega)
     have hnl:(nms 9 l).length ≤ (T 9 l).length:=nms_len hV 8
     have hsl:=srt_length_le (nms 9 l)
     obtain ⟨names,hnames⟩:∃ names,names = srt (nms 9 l):=⟨_,rfl⟩
     have hNm:tmpl_Names n l = some names:=by rw [hnames]; exact hNm
     have hnlen:names.length < 10000:=by rw [hnames]; omega
     have hl20:(of12 a2).length ≤ 20:=by
      unfold of12
      rw [List.length_take]
      have:=gat_len (vl a2)
      have:=vl_len a2
      omega
     have haval:∀ v ∈ of12 a2,v.f_Val.length ≤ 100:=fun v hv=>(of_mem a2v hv).2
     obtain ⟨o,ho⟩:∃ o:List Vr,o = a3.filter (fun v=>!(names.contains v.f_Key)) ++ (of12 a2).filter fun v=>names.contains v.f_Key:=⟨_,rfl⟩
     have g1:=List.length_filter_le (fun v:Vr=>!(names.contains v.f_Key)) a3
     have g2:=List.length_filter_le (fun v:Vr=>names.contains v.f_Key) (of12 a2)
     have hol:o.length ≤ 40:=by rw [ho,List.length_append]; omega
     have hoval:∀ v ∈ of12 o,v.f_Val.length ≤ 100:=fun v hv=>(of_mem (fun v hv=>by
      rw [ho] at hv
      rcases List.mem_append.1 hv with h | h
      ·exact a3v v (List.mem_filter.1 h).1
      ·exact haval v (List.mem_filter.1 h).1) hv).2
     have hoL:(of12 o).length ≤ 64:=of_len o
     rw [rof_eq n a2 (by omega) (by omega),Option.bind_some,hNm,Option.bind_some,filt_l1 n l k _ names a3 (by omega) hnlen (by omega),Option.bind_some,filt_l3 n l k _ names _ (by omega) (by omega) hnlen (by omega),Option.bind_some,← ho,rof_eq n o (by omega) (by omega),Option.bind_some,
      Expand_eq n (of12 a2) haval (by omega) l hV (by omega) (by omega),Option.bind_some,Expand_eq n (of12 o) hoval (by omega) l hV (by omega) (by omega),Option.bind_some]
     have hag:ex 9 (of12 o) l = ex 9 (of12 a2) l:=ex_agree 9 l fun x hx=>by
      rw [ho]; exact other_first names a2 a3 a2l a3l x (by rw [hnames]; exact mem_srt.2 hx)
     rw [hag,Expand_eq n (of12 a2) haval (by omega) k kV (by omega) (by omega),hTe,kTe]
     have hVb:V 1 (l ++ k):=V_app hV kV
     have hTb:T 9 (l ++ k) = T 9 l ++ T 9 k:=T_app 8 l k
     have hPb:=Parse_T n (l ++ k) (by omega) hVb (by rw [hTb,List.length_append]; omega)
     rw [hTb] at hPb
     have hVN:V 1 (N [] (l ++ k)):=V_N hVb [] (by omega)
     have hTN:(T 9 (N [] (l ++ k))).length ≤ 100000:=by
      rw [show T 9 (N [] (l ++ k)) = escS [] ++ T 9 (l ++ k) from T_N 8 (l ++ k) [],hTb,List.length_append,List.length_append]
      have:(escS []).length = 0:=rfl
      omega
     have hex:∀ z,ex 9 (of12 a2) z = exl (exP (of12 a2) (ex 8 (of12 a2)) (T 8)) [] z:=fun _=>rfl
     have hBoth:ex 9 (of12 a2) (N [] (l ++ k)) = (match ex 9 (of12 a2) l with | .inl e=>.inl e | .inr t=>exl (exP (of12 a2) (ex 8 (of12 a2)) (T 8)) t k):=by
      rw [hex,exl_N (fun p h0=>by unfold exP; rw [if_pos h0]) _ [] [] (Nat.zero_le _),if_neg (by simp),List.nil_append,exl_app,hex]
     have hText:subst_Text n (T (8 + 1) l ++ T (8 + 1) k) (of12 a2) = some (match (match ex 9 (of12 a2) l with | .inl e=>.inl e | .inr t=>exl (exP (of12 a2) (ex 8 (of12 a2)) (T 8)) t k:Er) with | .inr t=>(t,0) | .inl f=>([],f.1)):=by
      unfold subst_Text
      have hPb:tmpl_Parse n (T (8 + 1) l ++ T (8 + 1) k) = some (N [] (l ++ k),0):=hPb
      have z0:((0:Int) != 0) = false:=rfl
      rw [hPb,Option.bind_some]
      simp only [z0,Bool.false_eq_true,if_false]
      rw [Expand_eq n (of12 a2) haval (by omega) _ hVN hTN (by omega),hBoth,Option.bind_some]
     obtain ⟨R,hR⟩:∃ R:BS × Int,R = (match (match ex 9 (of12 a2) l with | .inl e=>.inl e | .inr t=>exl (exP (of12 a2) (ex 8 (of12 a2)) (T 8)) t k:Er) with | .inr t=>(t,0) | .inl f=>([],f.1)):=⟨_,rfl⟩
     rw [← hR] at hText
     simp only [Option.bind_some,beq_self_eq_true,Bool.not_true,bne_self_eq_false,cond_false,Bool.false_eq_true,if_false]
     rw [if_pos (str_fits (by show (T 9 l).length + (T 9 k).length ≤ _; omega)),hText,Option.bind_some]
     cases hx:ex 9 (of12 a2) l with
     | inl e' =>
      rw [hx] at hR
      subst hR
      have h49:=ex_code 9 _ _ _ hx
      have hz:(e'.1 != 0) = true:=by rcases h49 with h | h <;> rw [h] <;> rfl
      simp only [hz,if_true,beq_self_eq_true,cond_true,haw,Option.bind_some]
     | inr x =>
      rw [hx] at hR
      simp only at hR
      have hxl:=ex_le hx
      have hpre:=exl_pre (exP (of12 a2) (ex 8 (of12 a2)) (T 8)) x k []
      have z:((0:Int) != 0) = false:=rfl
      simp only [z,Bool.false_eq_true,if_false,List.append_nil,← hex] at hpre ⊢
      cases hy:ex 9 (of12 a2) k with
      | inl e' =>
       rw [hy] at hpre
       have h49:=ex_code 9 _ _ _ hy
       have hz:(e'.1 != 0) = true:=by rcases h49 with h | h <;> rw [h] <;> rfl
       simp only at hpre
       rcases hpre with h | h
       ·rw [h] at hR
        subst hR
        simp only [hz,if_true,beq_self_eq_true,cond_true,haw,Option.bind_some]
       ·rw [h] at hR
        subst hR
        simp only [hz,if_true,beq_self_eq_true,haw]
        cases ((9:Int) == e'.1) <;> rfl
      | inr y =>
       rw [hy] at hpre
       have hyl:=ex_le hy
       simp only [z,Bool.false_eq_true,if_false] at hpre ⊢
       have hw:IntKind.wrap .i64 ((List.length x:Int) + (List.length y:Int)) = ((x.length + y.length:Nat):Int):=by rw [wrap_id _ (by omega) (by omega)]; omega
       rw [hw]
       rw [hpre] at hR
       by_cases hle:(x ++ y).length ≤ 8192
       ·have hle':x.length + y.length ≤ 8192:=by rw [List.length_append] at hle; exact hle
        rw [if_pos (.inr hle)] at hR
        subst hR
        rw [if_neg (by simp only [decide_eq_true_eq]; omega),if_pos (str_fits (by omega))]
        simp only [beq_self_eq_true,cond_true,if_true,haw,Option.bind_some]
       ·have hkn:k ≠ []:=by
         intro h; subst h
         cases hy
         rw [List.append_nil] at hle; omega
        have hle':¬ x.length + y.length ≤ 8192:=by rw [List.length_append] at hle; exact hle
        rw [if_neg (by simp only [hkn,hle,or_self,not_false_eq_true])] at hR
        subst hR
        rw [if_pos (decide_eq_true (by omega))]
        simp only [beq_self_eq_true,cond_true,if_true,haw,Option.bind_some]
end Go.Proofs.YtibgdilkodjojaaDoor.M
