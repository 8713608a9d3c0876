import Derived.Test.YtibgdilkodjojaaGreatDoorQPG12
set_option linter.all false
namespace Go.Proofs.YtibgdilkodjojaaGreatDoor.M
open Go Go.Proofs.YtibgdilkodjojaaGreatDoor.RX Go.Proofs.YtibgdilkodjojaaGreatDoor.PL
set_option maxRecDepth 100000
def hexd (d:Nat):UInt8:=if d < 10 then UInt8.ofNat (48 + d) else UInt8.ofNat (87 + d)
def esc (c:UInt8):List UInt8 :=
 if c = 34 ∨ c = 92 then [92,c] else if c = 10 then [92,110] else if c = 9 then [92,116] else if good c = false then [92,120,hexd (c.toNat / 16),hexd (c.toNat % 16)] else [c]
theorem esc_len (c:UInt8):(esc c).length ≤ 4:=by
 unfold esc; repeat' split
 all_goals simp
theorem hexq:∀ c:UInt8,(decide (0 ≤ (Int.fdiv (c.toNat:Int) (2 ^ (min (Int.toNat 4) (IntKind.bits .u8)))) ∧ (Int.fdiv (c.toNat:Int) (2 ^ (min (Int.toNat 4) (IntKind.bits .u8)))) < (List.length ([48,49,50,51,52,53,54,55,56,57,97,98,99,100,101,102]:List UInt8):Int))) = true ∧
  (decide (0 ≤ (IntKind.wrap .u8 ((BitVec.ofInt (IntKind.bits .u8) (c.toNat:Int) &&& BitVec.ofInt (IntKind.bits .u8) 15).toNat)) ∧ (IntKind.wrap .u8 ((BitVec.ofInt (IntKind.bits .u8) (c.toNat:Int) &&& BitVec.ofInt (IntKind.bits .u8) 15).toNat)) < (List.length ([48,49,50,51,52,53,54,55,56,57,97,98,99,100,101,102]:List UInt8):Int))) = true ∧
  ((([48,49,50,51,52,53,54,55,56,57,97,98,99,100,101,102]:List UInt8))[Int.toNat (Int.fdiv (c.toNat:Int) (2 ^ (min (Int.toNat 4) (IntKind.bits .u8))))]?.getD 0) = hexd (c.toNat / 16) ∧
  ((([48,49,50,51,52,53,54,55,56,57,97,98,99,100,101,102]:List UInt8))[Int.toNat (IntKind.wrap .u8 ((BitVec.ofInt (IntKind.bits .u8) (c.toNat:Int) &&& BitVec.ofInt (IntKind.bits .u8) 15).toNat))]?.getD 0) = hexd (c.toNat % 16):=byte_all (by decide +kernel)
theorem dq (n:Nat) (v0 v3:List UInt8) (v13:Int) (i:Nat) (h:i < v0.length) (hb:v3.length ≤ 1000000):quote_Double_j2 n v0 v3 v13 (i:Int) = some (v3 ++ esc v0[i]):=by
 unfold quote_Double_j2
 simp only [in_i h,at_i h,if_true,lett]
 generalize v0[i] = c
 obtain ⟨h1,h2,h3,h4⟩:=hexq c
 have hs:∀ l:List UInt8,l.length ≤ 4 → decide ((List.length v3 + List.length l) * (1 + 1) ≤ limit) = true:=fun l hl=>fits (by omega)
 simp only [b34,b92,b10,b9,ok_good,h1,h2,h3,h4,hs _ (by simp:[92,c].length ≤ 4),hs _ (by simp:[(92:UInt8),110].length ≤ 4),hs _ (by simp:[(92:UInt8),116].length ≤ 4),hs _ (by simp:[c].length ≤ 4),hs _ (by simp:[92,120,hexd (c.toNat / 16),hexd (c.toNat % 16)].length ≤ 4),if_true]
 unfold esc
 by_cases c34:c = 34
 ·simp [c34]
 ·by_cases c92:c = 92
  ·simp [c92]
  ·by_cases c10:c = 10
   ·simp [c10]
   ·by_cases c9:c = 9
    ·simp [c9]
    ·cases hg:good c <;> simp [c34,c92,c10,c9]
theorem dq_l (n:Nat) (s:List UInt8) (hs:s.length ≤ 100000):∀ (k i:Nat) (acc:List UInt8),i ≤ s.length → s.length - i < k → acc.length + 4 * (s.length - i) ≤ 1000000 → quote_Double_l1 n s (s.length:Int) k acc (i:Int) = some (acc ++ (s.drop i).flatMap esc)
 | 0,i,acc,h1,h2,h3=>by omega
 | k + 1,i,acc,h1,h2,h3=>by
  rw [quote_Double_l1]
  by_cases h:i < s.length
  ·rw [if_pos (lt_i h),dq n s acc _ i h (by omega),Option.bind_some,wrap_s i (by omega)]
   have:=esc_len s[i]
   rw [dq_l n s hs k (i + 1) _ (by omega) (by omega) (by simp; omega),drop_at h,List.flatMap_cons,List.append_assoc]
  ·rw [if_neg (by rw [nlt_i (Nat.not_lt.1 h)]; exact Bool.false_ne_true),List.drop_eq_nil_of_le (by omega)]
   simp
def dblq (s:List UInt8):List UInt8:=[34] ++ s.flatMap esc ++ [34]
theorem esc_all_len:∀ s:List UInt8,(s.flatMap esc).length ≤ 4 * s.length
 | []=>by simp
 | c :: s=>by
  have:=esc_len c; have:=esc_all_len s
  simp only [List.flatMap_cons,List.length_append,List.length_cons]; omega
theorem qdouble (n:Nat) (s:List UInt8) (hs:s.length ≤ 100000) (hn:200000 ≤ n):quote_Double n s = some (dblq s):=by
 have hl:=esc_all_len s
 have hw:IntKind.wrap .i64 ((List.length s:Int) + 2) = ((s.length + 2:Nat):Int):=wrap_s2 _ (by omega)
 have e0:(List.drop 0 s) = s:=rfl
 have hd:decide ((List.length ([34] ++ s.flatMap esc) + List.length ([34]:List UInt8)) * (1 + 1) ≤ limit) = true:=fits (by rw [List.length_append]; simp only [List.length_cons,List.length_nil]; omega)
 unfold quote_Double
 have h1:decide ((0:Int) ≤ 0 ∧ (0:Int) ≤ ((s.length + 2:Nat):Int)) = true:=by simp; omega
 have h2:decide (((s.length + 2:Nat):Int) * ((1 + 1:Nat):Int) ≤ (limit:Int)) = true:=decide_eq_true (by show ((s.length + 2:Nat):Int) * ((1 + 1:Nat):Int) ≤ ((140737488355328:Nat):Int); omega)
 have h3:decide ((List.length ([]:List UInt8) + List.length ([34]:List UInt8)) * (1 + 1) ≤ limit) = true:=by decide
 have:=dq_l n s hs n 0 ([] ++ [34]) (by omega) (by omega) (by simp; omega)
 rw [hw,if_pos h1,if_pos h2,if_pos h3,show ((0:Int)) = ((0:Nat):Int) from rfl,this,Option.bind_some,List.drop_zero,List.nil_append,if_pos hd]
 rfl
theorem hexr:∀ c:UInt8,(decide (0 ≤ ref06_digit (IntKind.wrap .u8 (Int.tdiv (c.toNat:Int) 16)) ∧ ref06_digit (IntKind.wrap .u8 (Int.tdiv (c.toNat:Int) 16)) < 256)) = true ∧ (decide (0 ≤ ref06_digit (Int.tmod (c.toNat:Int) 16) ∧ ref06_digit (Int.tmod (c.toNat:Int) 16) < 256)) = true ∧
  UInt8.ofNat (Int.toNat (ref06_digit (IntKind.wrap .u8 (Int.tdiv (c.toNat:Int) 16)))) = hexd (c.toNat / 16) ∧ UInt8.ofNat (Int.toNat (ref06_digit (Int.tmod (c.toNat:Int) 16))) = hexd (c.toNat % 16):=byte_all (by decide +kernel)
theorem dr (n:Nat) (v0 v3:List UInt8) (i:Nat) (h:i < v0.length) (hb:v3.length ≤ 1000000):ref06_Double_j2 n v0 v3 (i:Int) = some (v3 ++ esc v0[i]):=by
 unfold ref06_Double_j2
 simp only [in_i h,at_i h,if_true,lett]
 generalize v0[i] = c
 obtain ⟨h1,h2,h3,h4⟩:=hexr c
 have hs:∀ l:List UInt8,l.length ≤ 4 → decide ((List.length v3 + List.length l) * (1 + 1) ≤ limit) = true:=fun l hl=>fits (by omega)
 have h16:((16:Int) != 0) = true:=rfl
 simp only [b34,b92,b10,b9,Good_good,h1,h2,h3,h4,h16,hs _ (by simp:[92,c].length ≤ 4),hs _ (by simp:[(92:UInt8),110].length ≤ 4),hs _ (by simp:[(92:UInt8),116].length ≤ 4),hs _ (by simp:[c].length ≤ 4),hs _ (by simp:[92,120,hexd (c.toNat / 16),hexd (c.toNat % 16)].length ≤ 4),if_true]
 unfold esc
 by_cases c34:c = 34
 ·simp [c34]
 ·by_cases c92:c = 92
  ·simp [c92]
  ·by_cases c10:c = 10
   ·simp [c10]
   ·by_cases c9:c = 9
    ·simp [c9]
    ·cases hg:good c <;> simp [c34,c92,c10,c9]
theorem dr_l (n:Nat) (s:List UInt8) (hs:s.length ≤ 100000):∀ (k i:Nat) (acc:List UInt8),i ≤ s.length → s.length - i < k → acc.length + 4 * (s.length - i) ≤ 1000000 → ref06_Double_l1 n s k acc (i:Int) = some (acc ++ (s.drop i).flatMap esc)
 | 0,i,acc,h1,h2,h3=>by omega
 | k + 1,i,acc,h1,h2,h3=>by
  rw [ref06_Double_l1]
  by_cases h:i < s.length
  ·rw [if_pos (lt_i h),dr n s acc i h (by omega),Option.bind_some,wrap_s i (by omega)]
   have:=esc_len s[i]
   rw [dr_l n s hs k (i + 1) _ (by omega) (by omega) (by simp; omega),drop_at h,List.flatMap_cons,List.append_assoc]
  ·rw [if_neg (by rw [nlt_i (Nat.not_lt.1 h)]; exact Bool.false_ne_true),List.drop_eq_nil_of_le (by omega)]
   simp
theorem rdouble (n:Nat) (s:List UInt8) (hs:s.length ≤ 100000) (hn:200000 ≤ n):ref06_Double n s = some (dblq s):=by
 have hl:=esc_all_len s
 have hw:IntKind.wrap .i64 ((List.length s:Int) + 2) = ((s.length + 2:Nat):Int):=wrap_s2 _ (by omega)
 have e0:(List.drop 0 s) = s:=rfl
 have hd:decide ((List.length ([34] ++ s.flatMap esc) + List.length ([34]:List UInt8)) * (1 + 1) ≤ limit) = true:=fits (by rw [List.length_append]; simp only [List.length_cons,List.length_nil]; omega)
 unfold ref06_Double
 have:=dr_l n s hs n 0 [34] (by omega) (by omega) (by simp; omega)
 rw [show ((0:Int)) = ((0:Nat):Int) from rfl,this,Option.bind_some,List.drop_zero,if_pos hd]
 rfl
def ln12 (v:Vr):BS:=v.f_Key ++ [61] ++ dblq v.f_Val ++ [10]
theorem ln_len {v:Vr} (hk:isName va1 va2 v.f_Key = true) (hv:v.f_Val.length ≤ 100):(ln12 v).length ≤ 1000 ∧ v.f_Key.length ≤ 24 ∧ (dblq v.f_Val).length ≤ 402:=by
 have h1:=(isName_len hk).1
 have h2:=esc_all_len v.f_Val
 unfold ln12
 have h3:(dblq v.f_Val).length ≤ 402:=by
  unfold dblq
  simp only [List.length_append,List.length_cons,List.length_nil]; omega
 refine ⟨?_,h1,h3⟩
 simp only [List.length_append,List.length_cons,List.length_nil]; omega
theorem text_eq (n:Nat) (l:List Vr) (hl:l.length ≤ 1000) (hb:∀ v ∈ l,isName va1 va2 v.f_Key = true ∧ v.f_Val.length ≤ 100) (hn:200000 ≤ n):env_Text n l = some (l.flatMap ln12):=by
 unfold env_Text
 have:=(gather (L:=fun k (s:BS) i=>env_Text_l1 n l (l.length:Int) k i s) l (fun (s:BS) v=>s ++ ln12 v) id (fun i s=>s.length ≤ i * 1000) (by omega)
  (fun k s i h hI=>by
   show env_Text_l1 n l (l.length:Int) (k + 1) (i:Int) s = _
   obtain ⟨b1,b2⟩:=hb l[i] (List.getElem_mem h)
   obtain ⟨c1,c2,c3⟩:=ln_len b1 b2
   rw [env_Text_l1,if_pos (lt_i h),if_pos (in_i h),at_i h,if_pos (str_fits (by simp; omega)),qdouble n _ (by omega) (by omega),Option.bind_some,if_pos (str_fits (by simp; omega)),if_pos (str_fits (by simp; omega)),if_pos (fits (by
    show s.length + (ln12 l[i]).length ≤ _
    omega))]
   rfl)
  (fun s i h hI=>by
   obtain ⟨b1,b2⟩:=hb l[i] (List.getElem_mem h)
   have:=(ln_len b1 b2).1
   rw [List.length_append]; omega)
  (fun k s _=>by
   show env_Text_l1 n l (l.length:Int) (k + 1) (l.length:Int) s = _
   rw [env_Text_l1,nlt_n]; rfl) n 0 [] (by omega) (by omega) (by simp)).1
 rw [List.drop_zero,foldl_app,List.nil_append] at this
 have this:env_Text_l1 n l (l.length:Int) n 0 [] = some (l.flatMap ln12):=this
 rw [this]; rfl
theorem rtext_eq (n:Nat) (l:List Vr) (hl:l.length ≤ 1000) (hb:∀ v ∈ l,isName va1 va2 v.f_Key = true ∧ v.f_Val.length ≤ 100) (hn:200000 ≤ n):ref12_Text n l = some (l.flatMap ln12):=by
 unfold ref12_Text
 have:=(gather (L:=ref12_Text_l1 n l) l (fun (s:BS) v=>s ++ ln12 v) id (fun i s=>s.length ≤ i * 1000) (by omega)
  (fun k s i h hI=>by
   obtain ⟨b1,b2⟩:=hb l[i] (List.getElem_mem h)
   obtain ⟨c1,c2,c3⟩:=ln_len b1 b2
   rw [ref12_Text_l1,if_pos (lt_i h),if_pos (in_i h),at_i h,if_pos (str_fits (by omega)),if_pos (str_fits (by simp; omega)),rdouble n _ (by omega) (by omega),Option.bind_some,if_pos (str_fits (by simp; omega)),if_pos (str_fits (by simp; omega))]
   unfold ln12
   simp only [List.append_assoc])
  (fun s i h hI=>by
   obtain ⟨b1,b2⟩:=hb l[i] (List.getElem_mem h)
   have:=(ln_len b1 b2).1
   rw [List.length_append]; omega)
  (fun k s _=>by rw [ref12_Text_l1,nlt_n]; rfl) n 0 [] (by omega) (by omega) (by simp)).1
 rw [List.drop_zero,foldl_app,List.nil_append] at this
 rw [show (0:Int) = ((0:Nat):Int) from rfl,this]; rfl
theorem rof_eq (n:Nat) (l:List Vr) (hl:l.length ≤ 9000) (hn:200000 ≤ n):ref12_Of n l = some (of12 l):=by
 unfold ref12_Of
 rw [gathered_eq n l (by omega) hn,Option.bind_some]
 unfold of12
 by_cases h:(gat (vl l)).length ≤ 64
 ·rw [if_neg (by simp; omega),List.take_of_length_le h]
 ·rw [if_pos (decide_eq_true (by omega)),if_pos (decide_eq_true (by omega))]; rfl
theorem awake12 (n:Nat) (hn:600000 ≤ n):law12_awake n = some true:=by
 obtain ⟨m,rfl⟩:∃ m,n = m + 60:=⟨n - 60,by omega⟩
 have l1:env_Parse_l1 (m + 60) (m + 60) [35,32,97,10,101,120,112,111,114,116,32,88,61,49,32,35,32,115,111,10,89,61,39,97,32,98,39,10] 1 [] = some (.inl [(.inl [88],⟨[49]⟩),(.inl [89],⟨[97,32,98]⟩)]):=by clear hn; kernel_rfl
 have hk:keysS [((Sum.inl [88]:MK),S_env_entry.mk [49]),(Sum.inl [89],S_env_entry.mk [97,32,98])] = [[88],[89]]:=(strSort_srt (ks:=[[88],[89]]) (by decide)).trans (by decide)
 have v1:env_Parse (m + 60) [35,32,97,10,101,120,112,111,114,116,32,88,61,49,32,35,32,115,111,10,89,61,39,97,32,98,39,10] = some ([⟨[88],[49]⟩,⟨[89],[97,32,98]⟩],0,0):=by
  unfold env_Parse
  rw [if_neg (by decide),l1,Option.bind_some]
  simp only [Sum.elim_inl]
  rw [if_neg (by decide)]
  unfold env_told__m0
  rw [if_pos (by decide),hk]
  clear l1 hk hn
  kernel_rfl
 have v2:env_Parse (m + 60) [88,61,49,10,89,10] = some ([],2,3):=by clear hn l1 hk v1; kernel_rfl
 unfold law12_awake
 rw [v1,v2,Option.bind_some,Option.bind_some]
 simp only [same_self12 (m + 60) _ (show List.length [S_api_Var.mk [88] [49],S_api_Var.mk [89] [97,32,98]] ≤ 100000 by decide) (by simp)]
 rfl
theorem law12_EnvGathers_true (a0:List Vr) (_:W_Lapi_Var a0) (a1:List Vr) (_:W_Lapi_Var a1) (a2:BS) (_:List.length a2 ≤ maxLen):∃ n,law12_EnvGathers n a0 a1 a2 = some true:=by
 obtain ⟨n,hn⟩:∃ n,n = 600000:=⟨_,rfl⟩
 refine ⟨n,?_⟩
 have haw:=awake12 n (by omega)
 obtain ⟨p,p1,p2⟩:=few12 n a0 100 (by omega) (by omega)
 obtain ⟨q,q1,q2⟩:=few12 n a1 100 (by omega) (by omega)
 have p1:law12_Few n a0 100 = some p:=p1
 have q1:law12_Few n a1 100 = some q:=q1
 unfold law12_EnvGathers
 rw [p1,Option.bind_some]
 cases p with
 | false=>rw [if_neg (by decide),Option.bind_some,if_pos (by rfl),haw]; rfl
 | true =>
  rw [if_pos (by rfl),q1,Option.bind_some]
  cases q with
  | false=>rw [if_pos (by rfl),haw]; rfl
  | true =>
   obtain ⟨a1l,a1v⟩:=p2 rfl
   obtain ⟨b1l,b1v⟩:=q2 rfl
   have la:=of_len a0
   have lb:=of_len a1
   rw [if_neg (by decide),rof_eq n a0 (by omega) (by omega),rof_eq n a1 (by omega) (by omega),Option.bind_some,Option.bind_some,List.nil_append]
   have hnd:=(of_asc a0).nodup
   have hmem:=fun v (hv:v ∈ of12 a0)=>of_mem a1v hv
   have ht:=text_eq n (of12 a0) (by omega) hmem (by omega)
   have hr:=rtext_eq n (of12 a0) (by omega) hmem (by omega)
   have ho:=over_eq n (of12 a0) (of12 a1) (by omega) (by omega) (by omega)
   have ho2:=rof_eq n (of12 a0 ++ of12 a1) (by rw [List.length_append]; omega) (by omega)
   have hlen:=of_len (of12 a0 ++ of12 a1)
   rw [if_pos (cap33 (by simp; omega)),if_pos (cap33 (by omega)),get_eq n _ a2 (by omega) (by omega),last_eq n _ a2 (by omega) (by omega),first_last hnd,of_eq n a0 (by omega) (by omega)]
   simp only [Option.bind_some,same_self12 n _ (show (of12 a0).length ≤ 100000 by omega) (by omega),beq_self_eq_true,if_true,ho,ho2,same_self12 n _ (show (of12 (of12 a0 ++ of12 a1)).length ≤ 100000 by omega) (by omega),cond_true,ht,hr,haw,lett]
end Go.Proofs.YtibgdilkodjojaaGreatDoor.M
