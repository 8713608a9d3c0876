import Derived.Test.YtibgdilkodjojaaGreatDoorQPG14F
set_option linter.all false
namespace Go.Proofs.YtibgdilkodjojaaGreatDoor.M
open Go Go.Proofs.YtibgdilkodjojaaGreatDoor.RX Go.Proofs.YtibgdilkodjojaaGreatDoor.PL
set_option maxRecDepth 100000
theorem eq_dropW {l m:List BS} {i:Nat} (h1:i < l.length) (h2:i < m.length):(l.drop i = m.drop i) ↔ l[i] = m[i] ∧ l.drop (i + 1) = m.drop (i + 1):=by
 rw [drop_at h1,drop_at h2,List.cons.injEq]
theorem same_lW {L:Nat → Int → Option (Sum Unit Bool)} (l m:List BS) (hlm:l.length = m.length) (hl:l.length < 100000)
  (hs:∀ k i (h:i < l.length) (h':i < m.length),L (k + 1) (i:Int) = if (!(l[i] == m[i])) = true then some (.inr false) else L k (IntKind.wrap .i64 ((i:Int) + 1)))
  (he:∀ k,L (k + 1) (l.length:Int) = some (.inl ())):∀ k i,i ≤ l.length → l.length - i < k → L k (i:Int) = some (if l.drop i = m.drop i then .inl () else .inr false)
 | 0,i,_,h=>by omega
 | k + 1,i,h1,h2=>by
  by_cases h:i < l.length
  ·have h':i < m.length:=by omega
   rw [hs k i h h']
   simp only [eq_dropW h h']
   by_cases e:l[i] = m[i]
   ·simp only [e,beq_self_eq_true,Bool.not_true,Bool.false_eq_true,if_false,true_and]
    rw [wrap_s i (by omega)]
    exact same_lW l m hlm hl hs he k (i + 1) (by omega) (by omega)
   ·simp [e]
  ·have:i = l.length:=by omega
   subst this
   rw [he,List.drop_eq_nil_of_le (Nat.le_refl _),List.drop_eq_nil_of_le (by omega),if_pos rfl]
theorem ref02_Same_eqW (n:Nat) (l m:List BS) (hl:l.length < 100000) (hn:200000 ≤ n):ref02_Same n l m = some (decide (l = m)):=by
 unfold ref02_Same
 by_cases hlm:l.length = m.length
 ·have e:((List.length l:Int) != (List.length m:Int)) = false:=by simp [hlm]
  have:=same_lW (L:=ref02_Same_l1 n l m) l m hlm hl
   (fun k i h h'=>by rw [ref02_Same_l1,if_pos (lt_i h),if_pos (in_i h),if_pos (in_i h'),at_i h,at_i h'])
   (fun k=>by rw [ref02_Same_l1,nlt_n]; rfl) n 0 (by omega) (by omega)
  rw [e,if_neg Bool.false_ne_true,show (0:Int) = ((0:Nat):Int) from rfl,this,List.drop_zero,List.drop_zero]
  by_cases h:l = m
  ·rw [if_pos h,decide_eq_true h]; rfl
  ·rw [if_neg h,decide_eq_false h]; rfl
 ·have e:((List.length l:Int) != (List.length m:Int)) = true:=by simpa using fun h=>hlm (by omega)
  rw [e,if_pos rfl,decide_eq_false (fun h=>hlm (congrArg List.length h))]
theorem same_self:∀ (d n:Nat) (t:Nd),Fit d t → 100000 + d < n → ref08_Same n t t = some true
 | _,0,_,_,h=>by omega
 | 0,n + 1,t,h,_=>h.elim
 | d + 1,n + 1,t,hF,hn=>by
  obtain ⟨f1,f2,_,_,_,_,_,f8⟩:=hF
  show ref08_Same_b (ref08_Same n) n t t = _
  unfold ref08_Same_b
  have e1:(t.f_Kind != t.f_Kind) = false:=by simp
  have e2:(t.f_Text == t.f_Text) = true:=by simp
  have e3:((List.length t.f_Kids:Int) != (List.length t.f_Kids:Int)) = false:=by simp
  have l1:=scanL (L:=ref08_Same_l1 (ref08_Same n) n t t) t.f_Kids (fun _=>(none:Option Bool)) 0 (by omega)
   (fun k i h _=>by
    rw [ref08_Same_l1,if_pos (lt_i h),if_pos (in_i h),if_pos (in_i h),at_i h,same_self d n _ (f8 _ (List.getElem_mem h)) (by omega)]
    rfl)
   (fun k=>by rw [ref08_Same_l1,nlt_n]; rfl) n 0 (by omega) (by omega) (by omega)
  have l1:ref08_Same_l1 (ref08_Same n) n t t n 0 = _:=l1
  have e4:List.findSome? (fun _:Nd=>(none:Option Bool)) (t.f_Kids.drop 0) = none:=by
   rw [List.findSome?_eq_none_iff]; intro x _; rfl
  rw [e1,e2,e3,ref02_Same_eq n t.f_Keys t.f_Keys (by omega) (by omega),l1,e4]
  simp [lett]
theorem text_both (n:Nat) (e:List Vr) (hval:∀ v ∈ e,v.f_Val.length ≤ 100) (hle:e.length ≤ 100) (hnd:(e.map (·.f_Key)).Nodup) (s:BS) (hs:s.length ≤ 1000) (hn:200000 ≤ n) :
  ∃ x k w f,subst_Text n s e = some (x,f) ∧ ref14_Text n s e = some ⟨x,k,w,f⟩:=by
 have hlast:∀ n,100 < n → ∀ x,ref12_Last n e x = some ((firstV e x).getD [],(firstV e x).isSome):=fun n hn x=>by
  rw [last_eq n e x (by omega) (by omega),first_last hnd x]
 obtain ⟨l,er,l1,l2,l3⟩:=Parse_okE n s (by omega) (by omega)
 by_cases her:er = 0
 ·subst her
  have hP:=l2 rfl
  obtain ⟨hV,hN⟩:=Ps_form hP
  have hT:(T 9 l).length ≤ 3 * s.length:=by have:=(Ps_len hP (by omega) (by omega)).2; simpa using this
  have hx:=expand_eq n e hval (by omega) l hV (by omega) (by omega)
  have hr:=rparts_say e hval 100 hlast (by omega) 8 1 n l rfl (Nat.le_refl _) hV (by show (T 9 l).length ≤ _; omega) (by omega)
  have hr:ref14_Parts n (Tk 9 l) e = some (said (ex 9 e l)):=hr
  have z:((0:Int) != 0) = false:=rfl
  unfold subst_Text ref14_Text subst_Expand
  rw [l1,rParse_ok n s l (by omega) (by omega) hP]
  simp only [Option.bind_some,z,Bool.false_eq_true,if_false]
  rw [hx,hr]
  cases ex 9 e l with
  | inr t=>exact ⟨t,[],[],0,rfl,rfl⟩
  | inl f=>exact ⟨[],f.2.1,f.2.2,f.1,rfl,rfl⟩
 ·obtain ⟨rfl,hE⟩:=l3 her
  have hz:(er != 0) = true:=by simpa using her
  unfold subst_Text ref14_Text
  rw [l1,rParse_err n s er (by omega) (by omega) hE]
  simp only [Option.bind_some,hz,if_true]
  exact ⟨[],[],[],er,rfl,rfl⟩
theorem kids_both (R R':Nd → List Vr → Option (Nd × Int)) (n d:Nat) (e:List Vr) (t:Nd) (hk:t.f_Kids.length ≤ 2000) (hR:∀ x ∈ t.f_Kids,∃ r,R x e = some r ∧ R' x e = some r ∧ Fit d r.1) (b4 b4':Nd) (kind:Int) (tx:BS) (keys:List BS) :
  ∀ (k i:Nat) (acc:List Nd),i ≤ t.f_Kids.length → t.f_Kids.length - i < k → acc.length = i → (∀ x ∈ acc,Fit d x) →
   (∃ l:List Nd,l.length = t.f_Kids.length ∧ (∀ x ∈ l,Fit d x) ∧ node_Each__subst_Node_1_e_l1 R n e t.f_Kids (t.f_Kids.length:Int) k (i:Int) b4 ⟨kind,tx,keys,acc⟩ = some (.inl (b4,⟨kind,tx,keys,l⟩)) ∧ ref14_Node_l2 R' n e t k (i:Int) b4' ⟨kind,tx,keys,acc⟩ = some (.inl (b4',⟨kind,tx,keys,l⟩)))
   ∨ ∃ f,node_Each__subst_Node_1_e_l1 R n e t.f_Kids (t.f_Kids.length:Int) k (i:Int) b4 ⟨kind,tx,keys,acc⟩ = some (.inr (f,Z8)) ∧ ref14_Node_l2 R' n e t k (i:Int) b4' ⟨kind,tx,keys,acc⟩ = some (.inr (f,Z8))
 | 0,i,acc,_,h,_,_=>by omega
 | k + 1,i,acc,h1,h2,h3,h4=>by
  by_cases h:i < t.f_Kids.length
  ·obtain ⟨r,r1,r2,r3⟩:=hR t.f_Kids[i] (List.getElem_mem h)
   rw [node_Each__subst_Node_1_e_l1,ref14_Node_l2,if_pos (lt_i h),if_pos (lt_i h),if_pos (in_i h),if_pos (in_i h),at_i h,r1,r2,Option.bind_some,Option.bind_some]
   by_cases hz:(r.2 != 0) = true
   ·rw [if_pos hz,if_pos hz]
    exact .inr ⟨r.2,rfl,rfl⟩
   ·have hc:decide ((List.length acc + List.length ([r.1]:List Nd)) * (72 + 1) ≤ limit) = true:=decide_eq_true (by show (acc.length + [r.1].length) * (72 + 1) ≤ 140737488355328; simp; omega)
    rw [if_neg hz,if_neg hz]
    simp only [hc,if_true]
    rw [wrap_s i (by omega)]
    exact kids_both R R' n d e t hk hR b4 b4' kind tx keys k (i + 1) (acc ++ [r.1]) (by omega) (by omega) (by simp; omega) fun x hx=>by
     rcases List.mem_append.1 hx with h | h
     ·exact h4 x h
     ·rw [List.mem_singleton.1 h]; exact r3
  ·have hi:i = t.f_Kids.length:=by omega
   subst hi
   refine .inl ⟨acc,h3,h4,?_,?_⟩
   ·rw [node_Each__subst_Node_1_e_l1,nlt_n]; rfl
   ·rw [ref14_Node_l2,nlt_n]; rfl
theorem fit_Z8 (d:Nat):Fit (d + 1) Z8:=⟨by simp,by simp,fun _=>rfl,fun _=>rfl,fun h=>(by cases h),fun _=>rfl,⟨by decide,by decide⟩,fun x hx=>by cases hx⟩
theorem each_both (e:List Vr) (hval:∀ v ∈ e,v.f_Val.length ≤ 100) (hle:e.length ≤ 100) (hnd:(e.map (·.f_Key)).Nodup):∀ (d n:Nat) (t:Nd),Fit d t → Shk 200 d t → 200000 + d ≤ n →
  ∃ r,node_Each__subst_Node_1_e n t e = some r ∧ ref14_Node n t e = some r ∧ Fit d r.1
 | 0,_,_,h,_,_=>h.elim
 | d + 1,n,t,hF,hS,hn=>by
  obtain ⟨n,rfl⟩:∃ n',n = n' + 1:=⟨n - 1,by omega⟩
  obtain ⟨f1,f2,f3,f4,f5,f6,f7,f8⟩:=hF
  obtain ⟨s1,s2,s3⟩:=hS
  obtain ⟨kind,tx,keys,kids⟩:=t
  simp only at f1 f2 f3 f4 f5 f6 f7 f8 s1 s2 s3
  show ∃ r,node_Each__subst_Node_1_e_b (node_Each__subst_Node_1_e n) n _ e = some r ∧ ref14_Node_b (ref14_Node n) n _ e = some r ∧ _
  unfold node_Each__subst_Node_1_e_b ref14_Node_b ref14_Node_j1
  by_cases h1:kind = 1
  ·subst h1
   obtain rfl:=f4 (by decide)
   obtain rfl:=f6 (by decide)
   obtain ⟨x,k,w,f,t1,t2⟩:=text_both n e hval hle hnd tx (by omega) (by omega)
   have hsn:subst_Node_1__e n tx e = some (x,f):=by unfold subst_Node_1__e; rw [t1]; rfl
   simp only [beq_self_eq_true,if_true,hsn,t2,Option.bind_some]
   by_cases hz:(f != 0) = true
   ·simp only [hz,if_true,Option.bind_some,Sum.elim_inr]
    exact ⟨_,rfl,rfl,fit_Z8 d⟩
   ·have hz':(f != 0) = false:=by simpa using hz
    obtain ⟨n,rfl⟩:∃ n',n = n' + 1:=⟨n - 1,by omega⟩
    simp only [hz',Bool.false_eq_true,if_false,Option.bind_some,Sum.elim_inl]
    refine ⟨(⟨1,x,[],[]⟩,0),rfl,?_,⟨by simp,by simp,fun h=>absurd rfl h,fun _=>rfl,fun h=>absurd h (by show (1:Int) ≠ 3; decide),fun _=>rfl,⟨by show (0:Int) ≤ 1; decide,by show (1:Int) ≤ 3; decide⟩,fun x hx=>by cases hx⟩⟩
    rw [ref14_Node_l2]
    rfl
  ·have hk:(kind == 1) = false:=beq_eq_false_iff_ne.2 h1
   obtain rfl:=f3 h1
   simp only [hk,Bool.false_eq_true,if_false,Option.bind_some,Sum.elim_inl]
   rcases kids_both (node_Each__subst_Node_1_e n) (ref14_Node n) n d e ⟨kind,[],keys,kids⟩ f1 (fun x hx=>each_both e hval hle hnd d n x (f8 x hx) (s3 x hx) (by omega)) ⟨0,[],[],[]⟩ ⟨0,[],[],[]⟩ kind [] keys n 0 [] (Nat.zero_le _) (by show kids.length - 0 < n; omega) rfl (fun x hx=>by cases hx) with ⟨l,l1,l2,l3,l4⟩ | ⟨f,l3,l4⟩
   ·have l3:node_Each__subst_Node_1_e_l1 (node_Each__subst_Node_1_e n) n e kids (kids.length:Int) n 0 ⟨0,[],[],[]⟩ ⟨kind,[],keys,[]⟩ = _:=l3
    have l4:ref14_Node_l2 (ref14_Node n) n e ⟨kind,[],keys,kids⟩ n 0 ⟨0,[],[],[]⟩ ⟨kind,[],keys,[]⟩ = _:=l4
    rw [l3,l4]
    have l1:l.length = kids.length:=l1
    refine ⟨(⟨kind,[],keys,l⟩,0),rfl,rfl,⟨by show l.length ≤ _; omega,f2,fun _=>rfl,f4,fun h=>⟨by show keys.length = l.length; rw [(f5 h).1,l1],(f5 h).2⟩,fun h=>List.eq_nil_of_length_eq_zero (by rw [show l.length = kids.length from l1,f6 h]; rfl),f7,l2⟩⟩
   ·have l3:node_Each__subst_Node_1_e_l1 (node_Each__subst_Node_1_e n) n e kids (kids.length:Int) n 0 ⟨0,[],[],[]⟩ ⟨kind,[],keys,[]⟩ = _:=l3
    have l4:ref14_Node_l2 (ref14_Node n) n e ⟨kind,[],keys,kids⟩ n 0 ⟨0,[],[],[]⟩ ⟨kind,[],keys,[]⟩ = _:=l4
    rw [l3,l4]
    exact ⟨_,rfl,rfl,fit_Z8 d⟩
def nmr:Nat → List RP → List BS
 | 0,_=>[]
 | d + 1,l=>l.flatMap fun p=>(if p.f_Op = 0 then [] else [p.f_Name]) ++ nmr d p.f_Sub
theorem nmr_Tk:∀ (m:Nat) (l:List TP),nmr m (Tk m l) = nms m l
 | 0,_=>rfl
 | m + 1,l=>by
  have h:∀ p:TP,nmr m (Tk m p.f_Sub) = nms m p.f_Sub:=fun p=>nmr_Tk m p.f_Sub
  show ((l.map (tk m)).flatMap fun p=>(if p.f_Op = 0 then [] else [p.f_Name]) ++ nmr m p.f_Sub) = l.flatMap fun p=>(if p.f_Op = 0 then [] else [p.f_Name]) ++ nms m p.f_Sub
  induction l with
  | nil=>rfl
  | cons p l ih =>
   rw [List.map_cons,List.flatMap_cons,List.flatMap_cons,ih]
   show (if p.f_Op = 0 then [] else [p.f_Name]) ++ nmr m (Tk m p.f_Sub) ++ _ = _
   rw [h p]
def pn (s:BS):List BS:=match ref13_Parse 300000 s with
 | some r=>if r.2 = 0 then nmr 9 r.1 else []
 | none=>[]
theorem pn_ok {s:BS} {l:List TP} (hs:s.length ≤ 10000) (h:Ps 1 s [] l []):pn s = nms 9 l:=by
 unfold pn
 rw [rParse_ok 300000 s l (by omega) hs h]
 show (if (0:Int) = 0 then nmr 9 (Tk 9 l) else []) = _
 rw [if_pos rfl,nmr_Tk]
theorem pn_err {s:BS} {e:Int} (hs:s.length ≤ 10000) (h:Pe 1 s e):pn s = []:=by
 unfold pn
 rw [rParse_err 300000 s e (by omega) hs h]
 show (if e = 0 then nmr 9 [] else []) = _
 rw [if_neg (by rcases Pe_ne h with h | h <;> rw [h] <;> decide)]
theorem g0_o (n:Nat):∀ (k:Nat) (d:Int) (out:List TP) (w:BS) (rd:Rd),tmpl_reader_parts_o__o0_g1_0 n k d out w rd = tmpl_reader_parts__o0_g1_0 (tmpl_reader_parts__o0 n) n k d out w rd
 | 0,_,_,_,_=>by rw [tmpl_reader_parts_o__o0_g1_0,tmpl_reader_parts__o0_g1_0]
 | k + 1,d,out,w,rd=>by
  rw [tmpl_reader_parts_o__o0_g1_0,tmpl_reader_parts__o0_g1_0]
  simp only [g0_o n k]
  rfl
theorem Parse_o_eq (n:Nat) (s:BS):tmpl_Parse_o (n + 1) s = tmpl_Parse (n + 2) s:=by
 unfold tmpl_Parse_o tmpl_Parse tmpl_reader_parts_o__o0
 rw [parts_unf]
 have:tmpl_reader_parts_o__o0_g1_e (n + 1) (n + 1) 1 (S_tmpl_reader.mk s 0 0) = tmpl_reader_parts__o0_g1_0 (tmpl_reader_parts__o0 (n + 1)) (n + 1) (n + 1) 1 [] [] (S_tmpl_reader.mk s 0 0):=by
  rw [← g0_o,tmpl_reader_parts_o__o0_g1_e,tmpl_reader_parts_o__o0_g1_0]
  rfl
 rw [this]
 cases tmpl_reader_parts__o0_g1_0 (tmpl_reader_parts__o0 (n + 1)) (n + 1) (n + 1) 1 [] [] (S_tmpl_reader.mk s 0 0) <;> rfl
theorem text_names (n:Nat) (s:BS) (hs:s.length ≤ 200) (hn:200000 ≤ n):∃ l er,tmpl_Parse_o n s = some (l,er) ∧ V 1 l ∧ nms 9 l = pn s ∧ (T 9 l).length ≤ 600:=by
 obtain ⟨n,rfl⟩:∃ n',n = n' + 1:=⟨n - 1,by omega⟩
 rw [Parse_o_eq]
 obtain ⟨l,er,l1,l2,l3⟩:=Parse_okE (n + 2) s (by omega) (by omega)
 refine ⟨l,er,l1,?_⟩
 by_cases her:er = 0
 ·have hP:=l2 her
  obtain ⟨hV,_⟩:=Ps_form hP
  have hT:(T 9 l).length ≤ 3 * s.length:=by have:=(Ps_len hP (by omega) (by omega)).2; simpa using this
  exact ⟨hV,(pn_ok (by omega) hP).symm,by omega⟩
 ·obtain ⟨rfl,hE⟩:=l3 her
  exact ⟨.nil 1,(pn_err (by omega) hE).symm,Nat.zero_le _⟩
theorem pn_len {s:BS} (hs:s.length ≤ 200):(pn s).length ≤ 600:=by
 obtain ⟨l,er,_,l2,l3,l4⟩:=text_names 200000 s hs (Nat.le_refl _)
 rw [← l3]
 exact Nat.le_trans (nms_len l2 8) l4
def txs:Nat → Nd → List BS
 | 0,_=>[]
 | d + 1,t=>(if t.f_Kind = 1 then [t.f_Text] else []) ++ t.f_Kids.flatMap (txs d)
def nmt:Nat → Nd → List BS
 | 0,_=>[]
 | d + 1,t=>(if t.f_Kind = 1 then pn t.f_Text else []) ++ t.f_Kids.flatMap (nmt d)
theorem nmt_txs:∀ (d:Nat) (t:Nd),nmt d t = (txs d t).flatMap pn
 | 0,_=>rfl
 | d + 1,t=>by
  rw [nmt,txs,List.flatMap_append]
  have h1:(if t.f_Kind = 1 then pn t.f_Text else []) = (if t.f_Kind = 1 then [t.f_Text] else []).flatMap pn:=by
   by_cases h:t.f_Kind = 1
   ·rw [if_pos h,if_pos h]; simp
   ·rw [if_neg h,if_neg h]; rfl
  have h2:∀ l:List Nd,l.flatMap (nmt d) = (l.flatMap (txs d)).flatMap pn:=by
   intro l
   induction l with
   | nil=>rfl
   | cons x l ih=>rw [List.flatMap_cons,List.flatMap_cons,List.flatMap_append,ih,nmt_txs d x]
  rw [h1,h2]
theorem flat_sum {α β:Type} (f:α → List β) (g:α → Nat) (c:Nat):∀ l:List α,(∀ x ∈ l,(f x).length ≤ c * g x) → (l.flatMap f).length ≤ c * (l.map g).sum
 | [],_=>by simp
 | x :: l,h=>by
  have h1:=h x (by simp)
  have h2:=flat_sum f g c l fun y hy=>h y (List.mem_cons_of_mem _ hy)
  rw [List.flatMap_cons,List.length_append,List.map_cons,List.sum_cons,Nat.mul_add]
  omega
theorem le_sum {α:Type} (f:α → Nat) {x:α}:∀ {l:List α},x ∈ l → f x ≤ (l.map f).sum
 | [],h=>by cases h
 | y :: l,h=>by
  rw [List.map_cons,List.sum_cons]
  rcases List.mem_cons.1 h with rfl | h
  ·omega
  ·have:=le_sum f h; omega
theorem txs_len:∀ (d:Nat) (t:Nd),(txs d t).length ≤ sz8 d t
 | 0,_=>Nat.zero_le _
 | d + 1,t=>by
  have h2:=flat_sum (txs d) (sz8 d) 1 t.f_Kids fun x _=>by rw [Nat.one_mul]; exact txs_len d x
  rw [txs,sz8,List.length_append]
  split <;> simp only [List.length_cons,List.length_nil] <;> omega
theorem txs_short {b:Nat}:∀ {d:Nat} {t:Nd},Shk b d t → ∀ x ∈ txs d t,x.length ≤ b
 | 0,_,_,x,hx=>by cases hx
 | d + 1,t,h,x,hx=>by
  rw [txs] at hx
  rcases List.mem_append.1 hx with hx | hx
  ·split at hx
   ·rw [List.mem_singleton.1 hx]; exact h.1
   ·cases hx
  ·obtain ⟨y,hy,hxy⟩:=List.mem_flatMap.1 hx
   exact txs_short (h.2.2 y hy) x hxy
theorem nmt_len:∀ {d:Nat} {t:Nd},Shk 200 d t → (nmt d t).length ≤ 600 * sz8 d t
 | 0,_,_=>Nat.zero_le _
 | d + 1,t,h=>by
  have h2:=flat_sum (nmt d) (sz8 d) 600 t.f_Kids fun x hx=>nmt_len (h.2.2 x hx)
  have h1:=pn_len h.1
  rw [nmt,sz8,List.length_append,Nat.mul_add]
  by_cases hk:t.f_Kind = 1
  ·rw [if_pos hk]; omega
  ·rw [if_neg hk,List.length_nil]; omega
theorem srt_flat {α:Type} (f:α → List BS) (l:List α):(l.flatMap fun x=>srt (f x)).length ≤ (l.flatMap f).length:=by
 induction l with
 | nil=>simp
 | cons x l ih =>
  have:=srt_length_le (f x)
  simp only [List.flatMap_cons,List.length_append]
  omega
theorem names_end (n d:Nat) (t:Nd) (hS:Shk 200 (d + 1) t) (hz:sz8 (d + 1) t ≤ 100) :
  name_Sorted_o n (srt (if t.f_Kind = 1 then pn t.f_Text else []) ++ t.f_Kids.flatMap fun x=>srt (nmt d x)) = some (srt (nmt (d + 1) t)):=by
 have h0:=nmt_len hS
 have h1:=srt_length_le (if t.f_Kind = 1 then pn t.f_Text else [])
 have h2:=srt_flat (nmt d) t.f_Kids
 have e:nmt (d + 1) t = (if t.f_Kind = 1 then pn t.f_Text else []) ++ t.f_Kids.flatMap (nmt d):=rfl
 rw [e,List.length_append] at h0
 rw [name_Sorted_o_eq n _ (by rw [List.length_append]; omega),e]
 congr 1
 refine srt_ext fun x=>?_
 simp only [List.mem_append,List.mem_flatMap,mem_srt]
theorem names_j (R:Nd → Option (List BS)) (n d:Nat) (t:Nd) (hS:Shk 200 (d + 1) t) (hn:200000 ≤ n):subst_Names_o_j1 R n (t.f_Kind == 1) t = some (srt (if t.f_Kind = 1 then pn t.f_Text else [])):=by
 unfold subst_Names_o_j1
 by_cases h:t.f_Kind = 1
 ·obtain ⟨l,er,l1,l2,l3,l4⟩:=text_names n t.f_Text hS.1 hn
  have hN:=NamesO_eq 8 1 n l rfl (Nat.le_refl _) l2 (by show (T 9 l).length ≤ _; omega) (by omega)
  rw [if_pos (beq_iff_eq.2 h),l1,Option.bind_some,hN,if_pos h,l3]; rfl
 ·rw [if_neg (by simpa using h),if_neg h]; rfl
theorem names_kids {L:Nat → List BS → Int → Option (List BS)} (d:Nat) (t:Nd) (hS:Shk 200 (d + 1) t) (hz:sz8 (d + 1) t ≤ 100) (s0:List BS) (h0:s0.length ≤ 600) (hk:t.f_Kids.length ≤ 2000)
  (hs:∀ k i (h:i < t.f_Kids.length) (s:List BS),L (k + 1) s (i:Int) = if (decide ((List.length s + List.length (srt (nmt d t.f_Kids[i]))) * (16 + 1) ≤ limit)) = true then L k (s ++ srt (nmt d t.f_Kids[i])) (IntKind.wrap .i64 ((i:Int) + 1)) else none)
  (he:∀ k s,L (k + 1) s (t.f_Kids.length:Int) = some s) (n:Nat) (hn:200000 ≤ n):L n s0 0 = some (s0 ++ t.f_Kids.flatMap fun x=>srt (nmt d x)):=by
 have h2:=srt_flat (nmt d) t.f_Kids
 have h3:=nmt_len hS
 rw [nmt,List.length_append] at h3
 exact gatherF (L:=L) t.f_Kids (fun x=>srt (nmt d x)) s0 id (by omega) (fun k i h s hb=>by
  have hb:s.length + (srt (nmt d t.f_Kids[i])).length ≤ s0.length + (t.f_Kids.flatMap fun x=>srt (nmt d x)).length:=hb
  rw [hs k i h s,if_pos (cap17 (by omega))]) (fun k s=>he k s) n (by omega)
theorem sel_len {t:Nd} (h:t.f_Text.length ≤ 200):(srt (if t.f_Kind = 1 then pn t.f_Text else [])).length ≤ 600:=by
 have h2:=pn_len h
 by_cases hk:t.f_Kind = 1
 ·rw [if_pos hk]; have:=srt_length_le (pn t.f_Text); omega
 ·rw [if_neg hk]; exact Nat.zero_le _
theorem namesO:∀ (d n:Nat) (t:Nd),Fit d t → Shk 200 d t → sz8 d t ≤ 100 → 200010 + d ≤ n → subst_Names_o n t = some (srt (nmt d t))
 | 0,_,_,h,_,_,_=>h.elim
 | d + 1,n,t,hF,hS,hz,hn=>by
  obtain ⟨n,rfl⟩:∃ n',n = n' + 1:=⟨n - 1,by omega⟩
  obtain ⟨f1,f2,f3,f4,f5,f6,f7,f8⟩:=hF
  show subst_Names_o_b (subst_Names_o n) n t = _
  unfold subst_Names_o_b
  have hl:=sel_len hS.1
  have hsz:∀ x ∈ t.f_Kids,sz8 d x ≤ 100:=fun x hx=>by
   have:sz8 d x ≤ (t.f_Kids.map (sz8 d)).sum:=le_sum (sz8 d) hx
   rw [sz8] at hz; omega
  have hk:=names_kids (L:=subst_Names_o_l2 (subst_Names_o n) n t.f_Kids (t.f_Kids.length:Int)) d t hS hz _ hl f1 (fun k i h s=>by
   rw [subst_Names_o_l2,if_pos (lt_i h),if_pos (in_i h),at_i h,namesO d n _ (f8 _ (List.getElem_mem h)) (hS.2.2 _ (List.getElem_mem h)) (hsz _ (List.getElem_mem h)) (by omega),Option.bind_some]) (fun k s=>by rw [subst_Names_o_l2,nlt_n]; rfl) n (by omega)
  rw [names_j _ n d t hS (by omega),Option.bind_some,hk,Option.bind_some,names_end n d t hS hz]; rfl
theorem names_eq (d n:Nat) (t:Nd) (hF:Fit (d + 1) t) (hS:Shk 200 (d + 1) t) (hz:sz8 (d + 1) t ≤ 100) (hn:200020 + d ≤ n):subst_Names n t = some (srt (nmt (d + 1) t)):=by
 obtain ⟨n,rfl⟩:∃ n',n = n' + 1:=⟨n - 1,by omega⟩
 obtain ⟨f1,f2,f3,f4,f5,f6,f7,f8⟩:=hF
 show subst_Names_b (subst_Names n) n t = _
 unfold subst_Names_b
 have hl:=sel_len hS.1
 have hsz:∀ x ∈ t.f_Kids,sz8 d x ≤ 100:=fun x hx=>by
  have:sz8 d x ≤ (t.f_Kids.map (sz8 d)).sum:=le_sum (sz8 d) hx
  rw [sz8] at hz; omega
 have hk:=names_kids (L:=subst_Names_l2 (subst_Names n) n t.f_Kids (t.f_Kids.length:Int)) d t hS hz _ hl f1 (fun k i h s=>by
  rw [subst_Names_l2,if_pos (lt_i h),if_pos (in_i h),at_i h,namesO d n _ (f8 _ (List.getElem_mem h)) (hS.2.2 _ (List.getElem_mem h)) (hsz _ (List.getElem_mem h)) (by omega),Option.bind_some]) (fun k s=>by rw [subst_Names_l2,nlt_n]; rfl) n (by omega)
 have hj:subst_Names_j1 (subst_Names n) n (t.f_Kind == 1) t = some (srt (if t.f_Kind = 1 then pn t.f_Text else [])):=names_j (subst_Names n) n d t hS (by omega)
 rw [hj,Option.bind_some,hk,Option.bind_some,names_end n d t hS hz]; rfl
theorem texts_l3 (R:Nd → Option (List BS)) (n:Nat) (v4:Int) (u s0:List BS) (b:Nd) (hn:100000 ≤ n) (hu:u.length + s0.length ≤ 90000):ref08_Texts_l3 R n v4 u b n s0 0 = some (s0 ++ u):=by
 have hfl:∀ l:List BS,l.flatMap (fun x=>[x]) = l:=fun l=>by induction l <;> simp_all
 have:=gatherF (L:=ref08_Texts_l3 R n v4 u b) u (fun x=>[x]) s0 id (by omega)
  (fun k i h s hl=>by
   rw [hfl] at hl
   simp only [List.length_cons,List.length_nil] at hl
   rw [ref08_Texts_l3,if_pos (lt_i h),if_pos (in_i h),at_i h,if_pos (cap17 (by simp only [List.length_append,List.length_cons,List.length_nil]; omega))])
  (fun k s=>by rw [ref08_Texts_l3,nlt_n]; rfl) n (by omega)
 rw [hfl] at this
 exact this
theorem texts_eq:∀ (d n:Nat) (t:Nd),Fit d t → sz8 d t ≤ 100 → 100010 + d ≤ n → ref08_Texts n t = some (txs d t)
 | 0,_,_,h,_,_=>h.elim
 | d + 1,n,t,hF,hz,hn=>by
  obtain ⟨n,rfl⟩:∃ n',n = n' + 1:=⟨n - 1,by omega⟩
  obtain ⟨f1,f2,f3,f4,f5,f6,f7,f8⟩:=hF
  show ref08_Texts_b (ref08_Texts n) n t = _
  unfold ref08_Texts_b ref08_Texts_j1
  have hlen:=txs_len (d + 1) t
  have hsz:∀ x ∈ t.f_Kids,sz8 d x ≤ 100:=fun x hx=>by
   have:sz8 d x ≤ (t.f_Kids.map (sz8 d)).sum:=le_sum (sz8 d) hx
   rw [sz8] at hz; omega
  have e:txs (d + 1) t = (if t.f_Kind = 1 then [t.f_Text] else []) ++ t.f_Kids.flatMap (txs d):=rfl
  rw [e,List.length_append] at hlen
  have hj:(if (t.f_Kind == 1) = true then (if (decide ((List.length ([]:List BS) + List.length ([t.f_Text]:List BS)) * (16 + 1) ≤ limit)) = true then (some (([]:List BS) ++ [t.f_Text])) else none) else some []) = some (if t.f_Kind = 1 then [t.f_Text] else []):=by
   by_cases h:t.f_Kind = 1
   ·rw [if_pos (beq_iff_eq.2 h),if_pos (cap17 (by simp)),if_pos h]; rfl
   ·rw [if_neg (by simpa using h),if_neg h]
  rw [hj,Option.bind_some]
  have hg:=gatherF (L:=ref08_Texts_l2 (ref08_Texts n) n t) t.f_Kids (txs d) (if t.f_Kind = 1 then [t.f_Text] else []) id (by omega)
   (fun k i h s hb=>by
    rw [ref08_Texts_l2,if_pos (lt_i h),if_pos (in_i h),at_i h,texts_eq d n _ (f8 _ (List.getElem_mem h)) (hsz _ (List.getElem_mem h)) (by omega),Option.bind_some,texts_l3 _ n _ _ _ _ (by omega) (by omega),Option.bind_some])
   (fun k s=>by rw [ref08_Texts_l2,nlt_n]; rfl) n (by omega)
  have hg:ref08_Texts_l2 (ref08_Texts n) n t n (if t.f_Kind = 1 then [t.f_Text] else []) 0 = some (txs (d + 1) t):=hg
  rw [hg]; rfl
theorem rnames_text (n:Nat) (s:BS) (hs:s.length ≤ 200) (hn:200000 ≤ n) (out:List BS) (ho:out.length ≤ 80000):∃ k er,ref13_Parse n s = some (k,er) ∧ (if (er == 0) = true then (ref13_Names n k).bind fun r3=>(ref02_Both n out r3).bind fun r4=>some r4 else some out) = some (if (er == 0) = true then srt (out ++ srt (pn s)) else out) ∧ (er ≠ 0 → pn s = []):=by
 obtain ⟨l,er,l1,l2,l3⟩:=Parse_okE n s (by omega) (by omega)
 by_cases her:er = 0
 ·have hP:=l2 her
  obtain ⟨hV,_⟩:=Ps_form hP
  have hT:(T 9 l).length ≤ 3 * s.length:=by have:=(Ps_len hP (by omega) (by omega)).2; simpa using this
  have hrn:=rnames_eq 8 1 n l rfl (Nat.le_refl _) hV (by show (T 9 l).length ≤ _; omega) (by omega)
  have hrn:ref13_names n (Tk 9 l) = some (nms 9 l):=hrn
  have hnl:=nms_len hV 8
  have hnl:(nms 9 l).length ≤ (T 9 l).length:=hnl
  have hsl:=srt_length_le (nms 9 l)
  refine ⟨Tk 9 l,0,rParse_ok n s l (by omega) (by omega) hP,?_,fun h=>absurd rfl h⟩
  have z:((0:Int) == 0) = true:=rfl
  rw [if_pos z,if_pos z]
  unfold ref13_Names
  rw [hrn,Option.bind_some,ref02_Sorted_eqW n _ (by omega) (by omega),Option.bind_some,Option.bind_some,ref02_Both_eqW n _ _ (by omega) (by omega),Option.bind_some,pn_ok (by omega) hP]
 ·obtain ⟨rfl,hE⟩:=l3 her
  refine ⟨[],er,rParse_err n s er (by omega) (by omega) hE,?_,fun _=>pn_err (by omega) hE⟩
  rw [if_neg (by simpa using her),if_neg (by simpa using her)]
theorem rnames_l1 (n:Nat) (L:List BS) (hL:L.length ≤ 100) (hS:∀ x ∈ L,x.length ≤ 200) (hn:200000 ≤ n):∀ (k i:Nat),i ≤ L.length → L.length - i < k →
  ref14_Names_l1 n L k (srt ((L.take i).flatMap pn)) (i:Int) = some (srt (L.flatMap pn))
 | 0,i,_,h=>by omega
 | k + 1,i,h1,h2=>by
  by_cases h:i < L.length
  ·have hlen:((L.take i).flatMap pn).length ≤ 600 * ((L.take i).map fun _=>1).sum:=flat_sum pn (fun _=>1) 600 (L.take i) fun x hx=>by
    have:=pn_len (hS x (List.mem_of_mem_take hx)); omega
   have hlen2:((L.take i).map fun _=>1).sum ≤ 100:=by
    have:∀ l:List BS,(l.map fun _=>1).sum = l.length:=fun l=>by induction l <;> simp_all; omega
    rw [this,List.length_take]; omega
   have hsl:=srt_length_le ((L.take i).flatMap pn)
   obtain ⟨q,er,q1,q2,q3⟩:=rnames_text n L[i] (hS _ (List.getElem_mem h)) hn (srt ((L.take i).flatMap pn)) (by omega)
   rw [ref14_Names_l1,if_pos (lt_i h)]
   unfold ref14_Names_j2
   rw [if_pos (in_i h),at_i h,q1,Option.bind_some]
   simp only
   rw [q2,Option.bind_some,wrap_s i (by omega)]
   have:(if (er == 0) = true then srt (srt ((L.take i).flatMap pn) ++ srt (pn L[i])) else srt ((L.take i).flatMap pn)) = srt ((L.take (i + 1)).flatMap pn):=by
    rw [take_flat pn L i h]
    by_cases he:er = 0
    ·rw [if_pos (beq_iff_eq.2 he)]
     refine srt_ext fun x=>?_
     simp only [List.mem_append,mem_srt]
    ·rw [if_neg (by simpa using he),q3 he,List.append_nil]
   rw [this]
   exact rnames_l1 n L hL hS hn k (i + 1) (by omega) (by omega)
  ·have hi:i = L.length:=by omega
   subst hi
   rw [ref14_Names_l1,nlt_n,List.take_length]; rfl
theorem rNames_eq (d n:Nat) (t:Nd) (hF:Fit d t) (hS:Shk 200 d t) (hz:sz8 d t ≤ 100) (hn:200010 + d ≤ n):ref14_Names n t = some (srt (nmt d t)):=by
 have hlen:=txs_len d t
 unfold ref14_Names
 have h:=rnames_l1 n (txs d t) (by omega) (txs_short hS) (by omega) n 0 (Nat.zero_le _) (by omega)
 have h:ref14_Names_l1 n (txs d t) n [] 0 = some (srt ((txs d t).flatMap pn)):=h
 rw [texts_eq d n t hF hz (by omega),Option.bind_some,h,nmt_txs]; rfl
theorem awake14:law14_awake 300000 = some true:=by kernel_rfl
theorem law14_SubstNodes_true (a0:Nd) (_:W_api_Node a0) (a1:List Vr) (_:W_Lapi_Var a1):∃ n,law14_SubstNodes n a0 a1 = some true:=by
 obtain ⟨n,hn,haw⟩:∃ n,n = 300000 ∧ law14_awake n = some true:=⟨300000,rfl,awake14⟩
 refine ⟨n,?_⟩
 obtain ⟨p,p1,p2⟩:=few12 n a1 60 (by omega) (by omega)
 have p1:law12_Few n a1 60 = some p:=p1
 obtain ⟨b,b1,b2⟩:=small_eq n a0 100 (by omega) (by omega)
 have b1:ref08_Small n a0 100 = some b:=b1
 unfold law14_SubstNodes
 rw [b1,Option.bind_some]
 cases b with
 | false =>
  rw [if_neg (by decide),Option.bind_some]
  simp only [Bool.not_false,cond_true,if_true,haw,Option.bind_some]
 | true =>
  rw [if_pos (by decide),p1,Option.bind_some]
  cases p with
  | false=>simp only [Bool.not_true,Bool.not_false,cond_false,if_true,haw,Option.bind_some]
  | true =>
   obtain ⟨hF,hz,hS⟩:=b2 rfl
   obtain ⟨a1l,a1v⟩:=p2 rfl
   have hlen:=of_len a1
   have hval:∀ v ∈ of12 a1,v.f_Val.length ≤ 100:=fun v hv=>(of_mem a1v hv).2
   obtain ⟨r,r1,r2,r3⟩:=each_both (of12 a1) hval (by omega) (of_asc a1).nodup 12 n a0 hF hS (by omega)
   have hsn:subst_Node n a0 (of12 a1) = some r:=by unfold subst_Node; rw [r1]; rfl
   have hsame:=same_self 12 n r.1 r3 (by omega)
   have hnm:=names_eq 11 n a0 hF hS hz (by omega)
   have hrn:=rNames_eq 12 n a0 hF hS hz (by omega)
   have hnl:=nmt_len hS
   have hsl:=srt_length_le (nmt 12 a0)
   have hs2:ref02_Same n (srt (nmt 12 a0)) (srt (nmt 12 a0)) = some true:=by
    rw [ref02_Same_eqW n _ _ (by omega) (by omega)]; simp
   simp only [Bool.not_true,cond_false,Bool.false_eq_true,if_false]
   rw [rof_eq n a1 (by omega) (by omega),Option.bind_some,hsn,Option.bind_some,r2,Option.bind_some,hsame,Option.bind_some]
   simp only [beq_self_eq_true,cond_true,if_true,hnm,hrn,hs2,haw,Option.bind_some]
end Go.Proofs.YtibgdilkodjojaaGreatDoor.M
