import Derived.Test.YtibgdilkodjojaaDoorQP12D
set_option linter.all false
namespace Go.Proofs.YtibgdilkodjojaaDoor.M
open Go Go.Proofs.YtibgdilkodjojaaDoor.RX Go.Proofs.YtibgdilkodjojaaDoor.PL
set_option maxRecDepth 100000
theorem few12 (n:Nat) (l:List Vr) (m:Nat) (hm:m ≤ 1000) (hn:100000 ≤ n):∃ b,law12_Few n l (m:Int) = some b ∧ (b = true → l.length ≤ m ∧ ∀ v ∈ l,v.f_Val.length ≤ 100):=by
 unfold law12_Few
 by_cases h:l.length ≤ m
 ·rw [if_neg (by simp; omega)]
  have:=scanL (L:=law12_Few_l1 n l) l (fun v=>if (bif decide ((v.f_Key.length:Int) > 100) then true else decide ((v.f_Val.length:Int) > 100)) = true then some false else none) 0 (by omega)
   (fun k i h _=>by
    rw [law12_Few_l1,if_pos (lt_i h),if_pos (in_i h),in_i h,at_i h,Bool.or_true,if_pos rfl]
    simp only [lett]
    cases (bif decide ((l[i].f_Key.length:Int) > 100) then true else decide ((l[i].f_Val.length:Int) > 100)) <;> rfl) (fun k=>by rw [law12_Few_l1,nlt_n]; rfl) n 0 (by omega) (by omega) (by omega)
  rw [show (0:Int) = ((0:Nat):Int) from rfl,this,List.drop_zero]
  clear this
  cases hf:l.findSome? (fun v=>if (bif decide ((v.f_Key.length:Int) > 100) then true else decide ((v.f_Val.length:Int) > 100)) = true then some false else none) with
  | none =>
   refine ⟨true,rfl,fun _=>⟨h,fun v hv=>?_⟩⟩
   have h1:=List.findSome?_eq_none_iff.1 hf v hv
   by_cases c:v.f_Val.length ≤ 100
   ·exact c
   ·rw [decide_eq_true (by omega:(v.f_Val.length:Int) > 100)] at h1
    rw [if_pos (by cases decide ((v.f_Key.length:Int) > 100) <;> rfl)] at h1
    cases h1
  | some b =>
   obtain ⟨v,_,h1⟩:=List.exists_of_findSome?_eq_some hf
   refine ⟨b,rfl,fun hb=>?_⟩
   subst hb
   split at h1 <;> cases h1
 ·rw [if_pos (decide_eq_true (by omega))]
  exact ⟨false,rfl,fun h=>by cases h⟩
def of12 (l:List Vr):List Vr:=(gat (vl l)).take 64
theorem of_loop (n:Nat) (l:List Vr) (hl:l.length ≤ 10000) (hn:200000 ≤ n):∃ m,env_Of_l1 n l (l.length:Int) n 0 [] = some m ∧ HoldsM m (vl l):=by
 have:=gather (L:=fun k (m:Mp12) i=>env_Of_l1 n l (l.length:Int) k i m) l (fun (m:Mp12) v=>if isName va1 va2 v.f_Key = true then mput m (.inl v.f_Key) ⟨v.f_Val⟩ else m) id (fun i m=>HoldsM m (vl (l.take i))) (by omega)
  (fun k m i h hI=>by
   show env_Of_l1 n l (l.length:Int) (k + 1) (i:Int) m = _
   rw [env_Of_l1,if_pos (lt_i h)]
   unfold env_Of_j2
   rw [if_pos (in_i h),at_i h,name_Variable_eq n _ (by omega),Option.bind_some]
   cases isName va1 va2 l[i].f_Key <;> rfl)
  (fun m i h hI=>by
   show HoldsM (if isName va1 va2 l[i].f_Key = true then mput m (.inl l[i].f_Key) ⟨l[i].f_Val⟩ else m) (vl (l.take (i + 1)))
   rw [List.take_succ_eq_append_getElem h]
   unfold vl at hI ⊢
   rw [List.filter_append,List.filter_cons,List.filter_nil]
   by_cases hv:isName va1 va2 l[i].f_Key = true
   ·rw [if_pos hv,if_pos hv]; exact hI.put l[i]
   ·rw [if_neg hv,if_neg hv,List.append_nil]; exact hI)
  (fun k m _=>by
   show env_Of_l1 n l (l.length:Int) (k + 1) (l.length:Int) m = _
   rw [env_Of_l1,nlt_n]; rfl) n 0 [] (by omega) (by omega) HoldsM.nil
 rw [List.take_length] at this
 exact ⟨_,this.1,this.2⟩
theorem gat_len (l:List Vr):(gat l).length ≤ l.length:=by
 have:=srt_length_le (l.map (·.f_Key))
 rw [List.length_map] at this
 unfold gat
 rw [List.length_map]; exact this
theorem of_eq (n:Nat) (l:List Vr) (hl:l.length ≤ 9000) (hn:200000 ≤ n):env_Of n l = some (of12 l):=by
 obtain ⟨m,h1,h2⟩:=of_loop n l (by omega) hn
 have h3:=vl_len l
 unfold env_Of
 rw [h1,Option.bind_some,told_eq n m (vl l) h2 (vl_short l) (by omega) hn,Option.bind_some]
 simp only
 unfold of12
 by_cases h:(gat (vl l)).length ≤ 64
 ·rw [if_neg (by omega:¬ (64:Int) < ((gat (vl l)).length:Int)),if_pos (le_i (Nat.le_refl _)),tn,List.take_length,List.take_of_length_le h]
 ·rw [if_pos (by omega:(64:Int) < ((gat (vl l)).length:Int)),if_pos (decide_eq_true (by omega))]; rfl
theorem concat_eq (n:Nat) (a b:List Vr) (ha:a.length ≤ 1000) (hb:b.length ≤ 1000) (hn:100 ≤ n):slices_Concat_api_Var_api_Var n [a,b] = some (a ++ b):=by
 have hx:∀ i (h:i < [a,b].length),[a,b][i].length ≤ 1000:=by
  intro i h
  match i,h with
  | 0,_=>exact ha
  | 1,_=>exact hb
 unfold slices_Concat_api_Var_api_Var
 have h1:=(gather (L:=fun k (s:Nat) i=>slices_Concat_api_Var_api_Var_l1 n [a,b] [a,b] ([a,b].length:Int) k (s:Int) i) [a,b] (fun s x=>s + x.length) (fun s=>(s:Int)) (fun i s=>s ≤ i * 1000) (by simp)
  (fun k s i h hI=>by
   show slices_Concat_api_Var_api_Var_l1 n [a,b] [a,b] ([a,b].length:Int) (k + 1) (s:Int) (i:Int) = _
   have:=hx i h
   have:i < 2:=h
   rw [slices_Concat_api_Var_api_Var_l1,if_pos (lt_i h)]
   unfold slices_Concat_api_Var_api_Var_j2
   have hw:IntKind.wrap .i64 ((s:Int) + ([a,b][i].length:Int)) = ((s + [a,b][i].length:Nat):Int):=by rw [wrap_id _ (by omega) (by omega)]; omega
   rw [if_pos (in_i h),at_i h,hw,if_neg (by simp; omega)]; rfl)
  (fun s i h hI=>by have:=hx i h; show s + [a,b][i].length ≤ (i + 1) * 1000; omega)
  (fun k s _=>by
   show slices_Concat_api_Var_api_Var_l1 n [a,b] [a,b] ([a,b].length:Int) (k + 1) (s:Int) _ = _
   rw [slices_Concat_api_Var_api_Var_l1,nlt_n]; rfl) n 0 0 (by simp) (by simp; omega) (by simp)).1
 have h3:=(gather (L:=slices_Concat_api_Var_api_Var_l3 n [a,b] ([a,b].length:Int)) [a,b] (fun (s:List Vr) x=>s ++ x) id (fun i s=>s.length ≤ i * 1000) (by simp)
  (fun k s i h hI=>by
   have:=hx i h
   have:i < 2:=h
   rw [slices_Concat_api_Var_api_Var_l3,if_pos (lt_i h),if_pos (in_i h),at_i h,if_pos (cap33 (by omega))])
  (fun s i h hI=>by have:=hx i h; rw [List.length_append]; omega)
  (fun k s _=>by rw [slices_Concat_api_Var_api_Var_l3,nlt_n]; rfl) n 0 [] (by simp) (by simp; omega) (by simp)).1
 simp only [List.drop_zero,List.foldl_cons,List.foldl_nil,Nat.zero_add,List.nil_append,id_eq] at h1 h3
 have h1:slices_Concat_api_Var_api_Var_l1 n [a,b] [a,b] ([a,b].length:Int) n 0 0 = some ((a.length + b.length:Nat):Int):=h1
 have h3:slices_Concat_api_Var_api_Var_l3 n [a,b] ([a,b].length:Int) n [] 0 = some (a ++ b):=h3
 rw [h1,Option.bind_some,if_pos (decide_eq_true ⟨by omega,by show ((a.length + b.length:Nat):Int) * 33 ≤ ((140737488355328:Nat):Int); omega⟩),h3]; rfl
theorem over_eq (n:Nat) (a b:List Vr) (ha:a.length ≤ 1000) (hb:b.length ≤ 1000) (hn:200000 ≤ n):env_Over n a b = some (of12 (a ++ b)):=by
 unfold env_Over
 rw [concat_eq n a b ha hb (by omega),Option.bind_some,of_eq n _ (by rw [List.length_append]; omega) hn]; rfl
def firstV (l:List Vr) (x:BS):Option BS:=(l.find? fun v=>v.f_Key == x).map (·.f_Val)
theorem firstV_cons (v:Vr) (r:List Vr) (x:BS):firstV (v :: r) x = if v.f_Key = x then some v.f_Val else firstV r x:=by
 unfold firstV
 rw [List.find?_cons]
 by_cases h:v.f_Key = x
 ·rw [if_pos h,show (v.f_Key == x) = true by rw [h]; exact beq_self_eq_true _]; rfl
 ·rw [if_neg h,show (v.f_Key == x) = false by rw [beq_eq_false_iff_ne]; exact h]
theorem lastV_cons (v:Vr) (r:List Vr) (x:BS):lastV (v :: r) x = match lastV r x with | some w=>some w | none=>if v.f_Key = x then some v.f_Val else none:=by
 unfold lastV
 rw [List.reverse_cons,List.find?_append]
 cases r.reverse.find? (fun v=>v.f_Key == x) with
 | some w=>rfl
 | none =>
  rw [Option.none_or,List.find?_cons]
  by_cases h:v.f_Key = x
  ·rw [show (v.f_Key == x) = true by rw [h]; exact beq_self_eq_true _]; simp [h]
  ·rw [show (v.f_Key == x) = false by rw [beq_eq_false_iff_ne]; exact h]; simp [h]
theorem first_last {l:List Vr} (h:(l.map (·.f_Key)).Nodup) (x:BS):firstV l x = lastV l x:=by
 induction l with
 | nil=>rfl
 | cons v r ih =>
  rw [List.map_cons,List.nodup_cons] at h
  rw [firstV_cons,lastV_cons,ih h.2]
  by_cases hv:v.f_Key = x
  ·rw [if_pos hv,lastV_none (by rw [← hv]; exact h.1),if_pos hv]
  ·rw [if_neg hv]
   cases lastV r x with
   | some w=>rfl
   | none=>rw [if_neg hv]
theorem get_eq (n:Nat) (l:List Vr) (x:BS) (hl:l.length ≤ 100000) (hn:l.length < n):env_Get n l x = some ((firstV l x).getD [],(firstV l x).isSome):=by
 unfold env_Get
 have:=scanL (L:=env_Get_l1 n x l (l.length:Int)) l (fun v=>if v.f_Key = x then some (v.f_Val,true) else none) 0 (by omega)
  (fun k i h _=>by
   rw [env_Get_l1,if_pos (lt_i h),if_pos (in_i h),at_i h]
   by_cases c:l[i].f_Key = x
   ·rw [if_pos (by rw [c]; exact beq_self_eq_true _),if_pos c]
   ·rw [if_neg (by simpa using c),if_neg c]) (fun k=>by rw [env_Get_l1,nlt_n]; rfl) n 0 (by omega) (by omega) (by omega)
 rw [show (0:Int) = ((0:Nat):Int) from rfl,this,List.drop_zero]
 have e:∀ l:List Vr,l.findSome? (fun v=>if v.f_Key = x then some (v.f_Val,true) else none) = (firstV l x).map fun w=>(w,true):=by
  intro l
  induction l with
  | nil=>rfl
  | cons v r ih =>
   rw [List.findSome?_cons,firstV_cons]
   by_cases c:v.f_Key = x
   ·rw [if_pos c,if_pos c]; rfl
   ·rw [if_neg c,if_neg c]; exact ih
 rw [e]
 cases firstV l x <;> rfl
theorem gat_keys (l:List Vr):(gat l).map (·.f_Key) = srt (l.map (·.f_Key)):=by
 unfold gat
 rw [List.map_map]
 exact List.map_id _
theorem of_asc (l:List Vr):Asc ((of12 l).map (·.f_Key)):=by
 unfold of12
 rw [List.map_take,gat_keys]
 exact (asc_srt _).sublist (List.take_sublist ..)
theorem lastV_mem {l:List Vr} {x v:BS} (h:lastV l x = some v):∃ w ∈ l,w.f_Key = x ∧ w.f_Val = v:=by
 unfold lastV at h
 obtain ⟨w,h1,h2⟩:=Option.map_eq_some_iff.1 h
 exact ⟨w,List.mem_reverse.1 (List.mem_of_find?_eq_some h1),by simpa using List.find?_some h1,h2⟩
theorem of_mem {l:List Vr} (hl:∀ v ∈ l,v.f_Val.length ≤ 100) {v:Vr} (h:v ∈ of12 l):isName va1 va2 v.f_Key = true ∧ v.f_Val.length ≤ 100:=by
 have h:=List.mem_of_mem_take h
 unfold gat at h
 obtain ⟨k,hk,rfl⟩:=List.mem_map.1 h
 obtain ⟨w,hw,rfl⟩:=List.mem_map.1 (mem_srt.1 hk)
 refine ⟨vl_short l w hw,?_⟩
 show ((lastV (vl l) w.f_Key).getD []).length ≤ 100
 cases hx:lastV (vl l) w.f_Key with
 | none=>exact Nat.zero_le _
 | some u =>
  obtain ⟨z,h1,_,h3⟩:=lastV_mem hx
  rw [Option.getD_some,← h3]
  exact hl z (List.mem_filter.1 h1).1
theorem of_len (l:List Vr):(of12 l).length ≤ 64:=by
 unfold of12
 rw [List.length_take]; omega
def hexd (d:Nat):UInt8:=if d < 10 then UInt8.ofNat (48 + d) else UInt8.ofNat (87 + d)
def esc (c:UInt8):List UInt8 :=
 if c = 34 ∨ c = 92 then [92,c] else if c = 10 then [92,110] else if c = 9 then [92,116] else if good c = false then [92,120,hexd (c.toNat / 16),hexd (c.toNat % 16)] else [c]
theorem esc_len (c:UInt8):(esc c).length ≤ 4:=by
 unfold esc; repeat' split
 all_goals simp
theorem hexq:∀ c:UInt8,(decide (0 ≤ (Int.fdiv (c.toNat:Int) (2 ^ (min (Int.toNat 4) (IntKind.bits .u8)))) ∧ (Int.fdiv (c.toNat:Int) (2 ^ (min (Int.toNat 4) (IntKind.bits .u8)))) < (List.length ([48,49,50,51,52,53,54,55,56,57,97,98,99,100,101,102]:List UInt8):Int))) = true ∧
  (decide (0 ≤ (IntKind.wrap .u8 ((BitVec.ofInt (IntKind.bits .u8) (c.toNat:Int) &&& BitVec.ofInt (IntKind.bits .u8) 15).toNat)) ∧ (IntKind.wrap .u8 ((BitVec.ofInt (IntKind.bits .u8) (c.toNat:Int) &&& BitVec.ofInt (IntKind.bits .u8) 15).toNat)) < (List.length ([48,49,50,51,52,53,54,55,56,57,97,98,99,100,101,102]:List UInt8):Int))) = true ∧
  ((([48,49,50,51,52,53,54,55,56,57,97,98,99,100,101,102]:List UInt8))[Int.toNat (Int.fdiv (c.toNat:Int) (2 ^ (min (Int.toNat 4) (IntKind.bits .u8))))]?.getD 0) = hexd (c.toNat / 16) ∧
  ((([48,49,50,51,52,53,54,55,56,57,97,98,99,100,101,102]:List UInt8))[Int.toNat (IntKind.wrap .u8 ((BitVec.ofInt (IntKind.bits .u8) (c.toNat:Int) &&& BitVec.ofInt (IntKind.bits .u8) 15).toNat))]?.getD 0) = hexd (c.toNat % 16):=byte_all (by decide +kernel)
theorem dq (n:Nat) (v0 v3:List UInt8) (v13:Int) (i:Nat) (h:i < v0.length) (hb:v3.length ≤ 1000000):quote_Double_j2 n v0 v3 v13 (i:Int) = some (v3 ++ esc v0[i]):=by
 unfold quote_Double_j2
 simp only [in_i h,at_i h,if_true,lett]
 generalize v0[i] = c
 obtain ⟨h1,h2,h3,h4⟩:=hexq c
 have hs:∀ l:List UInt8,l.length ≤ 4 → decide ((List.length v3 + List.length l) * (1 + 1) ≤ limit) = true:=fun l hl=>fits (by omega)
 simp only [b34,b92,b10,b9,ok_good,h1,h2,h3,h4,hs _ (by simp:[92,c].length ≤ 4),hs _ (by simp:[(92:UInt8),110].length ≤ 4),hs _ (by simp:[(92:UInt8),116].length ≤ 4),hs _ (by simp:[c].length ≤ 4),hs _ (by simp:[92,120,hexd (c.toNat / 16),hexd (c.toNat % 16)].length ≤ 4),if_true]
 unfold esc
 by_cases c34:c = 34
 ·simp [c34]
 ·by_cases c92:c = 92
  ·simp [c92]
  ·by_cases c10:c = 10
   ·simp [c10]
   ·by_cases c9:c = 9
    ·simp [c9]
    ·cases hg:good c <;> simp [c34,c92,c10,c9]
theorem dq_l (n:Nat) (s:List UInt8) (hs:s.length ≤ 100000):∀ (k i:Nat) (acc:List UInt8),i ≤ s.length → s.length - i < k → acc.length + 4 * (s.length - i) ≤ 1000000 → quote_Double_l1 n s (s.length:Int) k acc (i:Int) = some (acc ++ (s.drop i).flatMap esc)
 | 0,i,acc,h1,h2,h3=>by omega
 | k + 1,i,acc,h1,h2,h3=>by
  rw [quote_Double_l1]
  by_cases h:i < s.length
  ·rw [if_pos (lt_i h),dq n s acc _ i h (by omega),Option.bind_some,wrap_s i (by omega)]
   have:=esc_len s[i]
   rw [dq_l n s hs k (i + 1) _ (by omega) (by omega) (by simp; omega),drop_at h,List.flatMap_cons,List.append_assoc]
  ·rw [if_neg (by rw [nlt_i (Nat.not_lt.1 h)]; exact Bool.false_ne_true),List.drop_eq_nil_of_le (by omega)]
   simp
def dblq (s:List UInt8):List UInt8:=[34] ++ s.flatMap esc ++ [34]
theorem esc_all_len:∀ s:List UInt8,(s.flatMap esc).length ≤ 4 * s.length
 | []=>by simp
 | c :: s=>by
  have:=esc_len c; have:=esc_all_len s
  simp only [List.flatMap_cons,List.length_append,List.length_cons]; omega
theorem qdouble (n:Nat) (s:List UInt8) (hs:s.length ≤ 100000) (hn:200000 ≤ n):quote_Double n s = some (dblq s):=by
 have hl:=esc_all_len s
 have hw:IntKind.wrap .i64 ((List.length s:Int) + 2) = ((s.length + 2:Nat):Int):=wrap_s2 _ (by omega)
 have e0:(List.drop 0 s) = s:=rfl
 have hd:decide ((List.length ([34] ++ s.flatMap esc) + List.length ([34]:List UInt8)) * (1 + 1) ≤ limit) = true:=fits (by rw [List.length_append]; simp only [List.length_cons,List.length_nil]; omega)
 unfold quote_Double
 have h1:decide ((0:Int) ≤ 0 ∧ (0:Int) ≤ ((s.length + 2:Nat):Int)) = true:=by simp; omega
 have h2:decide (((s.length + 2:Nat):Int) * ((1 + 1:Nat):Int) ≤ (limit:Int)) = true:=decide_eq_true (by show ((s.length + 2:Nat):Int) * ((1 + 1:Nat):Int) ≤ ((140737488355328:Nat):Int); omega)
 have h3:decide ((List.length ([]:List UInt8) + List.length ([34]:List UInt8)) * (1 + 1) ≤ limit) = true:=by decide
 have:=dq_l n s hs n 0 ([] ++ [34]) (by omega) (by omega) (by simp; omega)
 rw [hw,if_pos h1,if_pos h2,if_pos h3,show ((0:Int)) = ((0:Nat):Int) from rfl,this,Option.bind_some,List.drop_zero,List.nil_append,if_pos hd]
 rfl
theorem drop_cons {S:List UInt8} {i:Nat} {x:UInt8} {r:List UInt8} (h:S.drop i = x :: r):∃ hi:i < S.length,S[i] = x ∧ S.drop (i + 1) = r:=by
 have hi:i < S.length:=by
  rcases Nat.lt_or_ge i S.length with h1 | h1
  ·exact h1
  ·rw [List.drop_eq_nil_of_le h1] at h; cases h
 rw [List.drop_eq_getElem_cons hi] at h
 exact ⟨hi,(List.cons.inj h).1,(List.cons.inj h).2⟩
theorem drop_more {S r:List UInt8} {i:Nat} {p:List UInt8} (h:S.drop i = p ++ r):S.drop (i + p.length) = r:=by
 rw [← List.drop_drop,h,List.drop_left]
theorem hexv_hexd:∀ d,d < 16 → hexv (hexd d) = some d:=by decide +kernel
theorem back34 (n:Nat) (S behind:List UInt8) (hS:S.length ≤ 100000000):∀ (u:List UInt8) (k i:Nat) (acc:List UInt8),u.length < k → acc.length + u.length ≤ 100000000 → S.drop i = u.flatMap esc ++ 34 :: behind →
  quote_Scan_l1 n S 34 k (i:Int) acc = some (.inr (acc ++ u,((i + (u.flatMap esc).length + 1:Nat):Int),0))
 | [],k,i,acc,hk,ha,hd=>by
  obtain ⟨k,rfl⟩:∃ k',k = k' + 1:=⟨k - 1,by omega⟩
  obtain ⟨hi,h1,h2⟩:=drop_cons (by simpa using hd:S.drop i = 34 :: behind)
  have hg:good S[i] ≠ false:=by rw [h1]; decide
  rw [q34 n k S acc i hS (by simp at ha; omega) hi,if_neg hg,if_pos h1]
  simp
 | c :: u,k,i,acc,hk,ha,hd=>by
  obtain ⟨k,rfl⟩:∃ k',k = k' + 1:=⟨k - 1,by omega⟩
  simp only [List.length_cons] at hk ha
  rw [List.flatMap_cons,List.append_assoc] at hd
  have hmore:=drop_more hd
  have hesc:∀ (b:UInt8) (l:Nat) (t:List UInt8),esc c = 92 :: t → uesc (t ++ (u.flatMap esc ++ 34 :: behind)) = some (c,l) → (esc c).length = l →
    quote_Scan_l1 n S 34 (k + 1) (i:Int) acc = some (.inr (acc ++ c :: u,((i + ((c :: u).flatMap esc).length + 1:Nat):Int),0)):=by
   intro b l t he hu hl
   rw [he] at hd
   obtain ⟨hi,h1,h2⟩:=drop_cons (show S.drop i = 92 :: (t ++ (u.flatMap esc ++ 34 :: behind)) from hd)
   have hg:good S[i] ≠ false:=by rw [h1]; decide
   have h34:S[i] ≠ 34:=by rw [h1]; decide
   rw [q34 n k S acc i hS (by omega) hi,if_neg hg,if_neg h34,if_pos h1,h2,hu]
   simp only
   rw [hl] at hmore
   rw [back34 n S behind hS u k (i + l) (acc ++ [c]) (by omega) (by simp; omega) hmore]
   have hlen:((c :: u).flatMap esc).length = l + (u.flatMap esc).length:=by rw [List.flatMap_cons,List.length_append,hl]
   rw [hlen,List.append_assoc,show i + l + (u.flatMap esc).length + 1 = i + (l + (u.flatMap esc).length) + 1 by omega]
   rfl
  by_cases h1:c = 34 ∨ c = 92
  ·exact hesc c 2 [c] (by simp [esc,h1]) (by
    rcases h1 with rfl | rfl <;> rfl) (by simp [esc,h1])
  ·by_cases h2:c = 10
   ·subst h2; exact hesc 10 2 [110] rfl rfl rfl
   ·by_cases h3:c = 9
    ·subst h3; exact hesc 9 2 [116] rfl rfl rfl
    ·by_cases h4:good c = false
     ·have he:esc c = [92,120,hexd (c.toNat / 16),hexd (c.toNat % 16)]:=by simp [esc,h1,h2,h3,h4]
      have hb:=c.toNat_lt
      refine hesc c 4 [120,hexd (c.toNat / 16),hexd (c.toNat % 16)] he ?_ (by rw [he]; rfl)
      have e1:=hexv_hexd (c.toNat / 16) (by omega)
      have e2:=hexv_hexd (c.toNat % 16) (by omega)
      show (match hexv (hexd (c.toNat / 16)),hexv (hexd (c.toNat % 16)) with | some v,some w=>some (UInt8.ofNat (v * 16 + w),4) | _,_=>none) = some (c,4)
      rw [e1,e2]
      simp only [Nat.div_add_mod',UInt8.ofNat_toNat]
     ·have he:esc c = [c]:=by simp [esc,h1,h2,h3,h4]
      rw [he] at hd
      obtain ⟨hi,g1,g2⟩:=drop_cons hd
      have h34:S[i] ≠ 34:=by rw [g1]; exact fun e=>h1 (.inl e)
      have h92:S[i] ≠ 92:=by rw [g1]; exact fun e=>h1 (.inr e)
      rw [q34 n k S acc i hS (by omega) hi,if_neg (by rw [g1]; exact h4),if_neg h34,if_neg h92,g1]
      rw [back34 n S behind hS u k (i + 1) (acc ++ [c]) (by omega) (by simp; omega) g2]
      have hlen:((c :: u).flatMap esc).length = 1 + (u.flatMap esc).length:=by rw [List.flatMap_cons,List.length_append,he]; rfl
      rw [hlen,List.append_assoc,show i + 1 + (u.flatMap esc).length + 1 = i + (1 + (u.flatMap esc).length) + 1 by omega]
      rfl
def ln12 (v:Vr):BS:=v.f_Key ++ [61] ++ dblq v.f_Val ++ [10]
theorem ln_len {v:Vr} (hk:isName va1 va2 v.f_Key = true) (hv:v.f_Val.length ≤ 100):(ln12 v).length ≤ 1000 ∧ v.f_Key.length ≤ 24 ∧ (dblq v.f_Val).length ≤ 402:=by
 have h1:=(isName_len hk).1
 have h2:=esc_all_len v.f_Val
 unfold ln12
 have h3:(dblq v.f_Val).length ≤ 402:=by
  unfold dblq
  simp only [List.length_append,List.length_cons,List.length_nil]; omega
 refine ⟨?_,h1,h3⟩
 simp only [List.length_append,List.length_cons,List.length_nil]; omega
theorem text_eq (n:Nat) (l:List Vr) (hl:l.length ≤ 1000) (hb:∀ v ∈ l,isName va1 va2 v.f_Key = true ∧ v.f_Val.length ≤ 100) (hn:200000 ≤ n):env_Text n l = some (l.flatMap ln12):=by
 unfold env_Text
 have:=(gather (L:=fun k (s:BS) i=>env_Text_l1 n l (l.length:Int) k i s) l (fun (s:BS) v=>s ++ ln12 v) id (fun i s=>s.length ≤ i * 1000) (by omega)
  (fun k s i h hI=>by
   show env_Text_l1 n l (l.length:Int) (k + 1) (i:Int) s = _
   obtain ⟨b1,b2⟩:=hb l[i] (List.getElem_mem h)
   obtain ⟨c1,c2,c3⟩:=ln_len b1 b2
   rw [env_Text_l1,if_pos (lt_i h),if_pos (in_i h),at_i h,if_pos (str_fits (by simp; omega)),qdouble n _ (by omega) (by omega),Option.bind_some,if_pos (str_fits (by simp; omega)),if_pos (str_fits (by simp; omega)),if_pos (fits (by
    show s.length + (ln12 l[i]).length ≤ _
    omega))]
   rfl)
  (fun s i h hI=>by
   obtain ⟨b1,b2⟩:=hb l[i] (List.getElem_mem h)
   have:=(ln_len b1 b2).1
   rw [List.length_append]; omega)
  (fun k s _=>by
   show env_Text_l1 n l (l.length:Int) (k + 1) (l.length:Int) s = _
   rw [env_Text_l1,nlt_n]; rfl) n 0 [] (by omega) (by omega) (by simp)).1
 rw [List.drop_zero,foldl_app,List.nil_append] at this
 have this:env_Text_l1 n l (l.length:Int) n 0 [] = some (l.flatMap ln12):=this
 rw [this]; rfl
theorem va_one:∀ c:UInt8,va1 c = true → va2 c = true:=byte_all (by decide +kernel)
theorem va_not:∀ c:UInt8,va2 c = true → c ≠ 32 ∧ c ≠ 61 ∧ c ≠ 10 ∧ c ≠ 35:=byte_all (by decide +kernel)
theorem name_all {k:BS} (h:isName va1 va2 k = true):∀ c ∈ k,va2 c = true:=by
 cases k with
 | nil=>cases h
 | cons c r =>
  unfold isName at h
  rw [Bool.and_eq_true,Bool.and_eq_true] at h
  intro d hd
  rcases List.mem_cons.1 hd with rfl | hd
  ·exact va_one _ h.1.2
  ·exact List.all_eq_true.1 h.2 d hd
theorem esc10:∀ c:UInt8,(10:UInt8) ∉ esc c:=byte_all (by decide +kernel)
theorem dblq10 (s:BS):(10:UInt8) ∉ dblq s:=by
 unfold dblq
 intro h
 rw [List.mem_append,List.mem_append,List.mem_flatMap] at h
 rcases h with (h | ⟨c,_,h⟩) | h
 ·revert h; decide
 ·exact esc10 c h
 ·revert h; decide
theorem no_ex {k r:BS} (hk:∀ c ∈ k,va2 c = true):Lib.hasPrefix (k ++ 61 :: r) kEx = false:=by
 rw [Bool.eq_false_iff]
 intro h
 obtain ⟨u,hu⟩:=List.isPrefixOf_iff_prefix.1 h
 have hx:∀ i,i < 7 → (k ++ 61 :: r)[i]? = kEx[i]?:=fun i hi=>by rw [← hu]; exact List.getElem?_append_left hi
 by_cases h7:k.length < 7
 ·have h1:=hx k.length h7
  rw [List.getElem?_append_right (Nat.le_refl _),Nat.sub_self,List.getElem?_cons_zero] at h1
  have h2:(61:UInt8) ∈ kEx:=List.mem_of_getElem? h1.symm
  revert h2; decide
 ·have h1:=hx 6 (by omega)
  rw [List.getElem?_append_left (by omega)] at h1
  have h2:(32:UInt8) ∈ k:=List.mem_of_getElem? (h1.trans (by rfl))
  exact (va_not _ (hk _ h2)).1 rfl
theorem value_back (n:Nat) (s:BS) (hs:s.length ≤ 1000) (hn:20000 ≤ n):env_value n (dblq s) = some (s,true):=by
 have hl:(dblq s).length = (s.flatMap esc).length + 2:=by unfold dblq; simp
 have he:=esc_all_len s
 have hd:dblq s = 34 :: (s.flatMap esc ++ 34 :: []):=by unfold dblq; simp
 have h0:0 < (dblq s).length:=by omega
 have h34:(dblq s)[0] = 34:=by simp only [hd,List.getElem_cons_zero]
 have hb:=back34 n (dblq s) [] (by omega) s n 1 [] (by omega) (by simp; omega) (by rw [hd]; rfl)
 have hsc:quote_Scan n (dblq s) 0 = some (s,(((dblq s).length:Nat):Int),0):=by
  have:=scan_open n (dblq s) 0 (by omega) h0 (.inl h34)
  rw [h34] at this
  rw [show (0:Int) = ((0:Nat):Int) from rfl,this]
  show (quote_Scan_l1 n (dblq s) 34 n ((1:Nat):Int) []).bind _ = _
  rw [hb,Option.bind_some]
  unfold finq
  show some ([] ++ s,((1 + (s.flatMap esc).length + 1:Nat):Int),(0:Int)) = some (s,(((dblq s).length:Nat):Int),0)
  rw [List.nil_append,hl,show 1 + (s.flatMap esc).length + 1 = (s.flatMap esc).length + 2 by omega]
 unfold env_value
 have hq:(bif (!(dblq s == [])) then (bif ((((dblq s)[Int.toNat 0]?.getD 0).toNat:Int) == 34) then true else ((((dblq s)[Int.toNat 0]?.getD 0).toNat:Int) == 39)) else false) = true:=(quo_test (dblq s)).2 ⟨34,_,hd,.inl rfl⟩
 have hin:decide (0 ≤ (0:Int) ∧ (0:Int) < ((dblq s).length:Int)) = true:=decide_eq_true (by omega)
 rw [if_pos (by rw [hin,Bool.or_true]),if_pos (by rw [hin,Bool.or_true])]
 simp only [lett]
 rw [if_pos hq,hsc,Option.bind_some,if_pos (le_i (Nat.le_refl _)),tn,List.drop_length]
 rfl
theorem row_back (n:Nat) (v:Vr) (hk:isName va1 va2 v.f_Key = true) (hv:v.f_Val.length ≤ 1000) (hn:20000 ≤ n):env_row n (v.f_Key ++ 61 :: dblq v.f_Val) = some (v,true):=by
 have hall:=name_all hk
 obtain ⟨hk1,hk2⟩:=isName_len hk
 have he:=esc_all_len v.f_Val
 have hl:(dblq v.f_Val).length = (v.f_Val.flatMap esc).length + 2:=by unfold dblq; simp
 have ht:Lib.trimB (v.f_Key ++ 61 :: dblq v.f_Val) 32 = v.f_Key ++ 61 :: dblq v.f_Val:=by
  rw [trim_comm]
  have h1:Lib.trimLeftB (v.f_Key ++ 61 :: dblq v.f_Val) 32 = v.f_Key ++ 61 :: dblq v.f_Val:=by
   cases hx:v.f_Key with
   | nil=>exact absurd hx hk2
   | cons c r =>
    rw [List.cons_append]
    exact trimL_other (va_not c (hall c (by rw [hx]; exact List.mem_cons_self))).1 _
  rw [h1]
  refine trimR_id fun p c h=>?_
  have h2:v.f_Key ++ 61 :: dblq v.f_Val = (v.f_Key ++ 61 :: (34 :: v.f_Val.flatMap esc)) ++ [34]:=by unfold dblq; simp
  rw [h2] at h
  have:=(List.append_inj' h rfl).2
  have:c = 34:=by simpa using this.symm
  rw [this]; decide
 have hlen:(v.f_Key ++ 61 :: dblq v.f_Val).length ≤ 10000:=by
  rw [List.length_append,List.length_cons]; omega
 have hcut:Lib.cut (v.f_Key ++ 61 :: dblq v.f_Val) [61] = (v.f_Key,dblq v.f_Val,true):=by
  rw [cut_eq,upto_app (fun h=>(va_not _ (hall _ h)).2.1 rfl)]
 have hne:((v.f_Key ++ 61 :: dblq v.f_Val) == ([]:BS)) = false:=by rw [beq_eq_false_iff_ne]; simp
 have h35:((((v.f_Key ++ 61 :: dblq v.f_Val)[Int.toNat 0]?.getD 0).toNat:Int) == 35) = false:=by
  rw [b35]
  cases hx:v.f_Key with
  | nil=>exact absurd hx hk2
  | cons c r =>
   rw [List.cons_append]
   exact decide_eq_false (va_not c (hall c (by rw [hx]; exact List.mem_cons_self))).2.2.2
 have hin:decide (0 ≤ (0:Int) ∧ (0:Int) < ((v.f_Key ++ 61 :: dblq v.f_Val).length:Int)) = true:=decide_eq_true ⟨by omega,by rw [List.length_append,List.length_cons]; omega⟩
 unfold env_row
 rw [ht,if_pos (decide_eq_true (by omega)),if_pos (by rw [hin,Bool.or_true]),hne,h35,if_neg (by decide)]
 have hj:env_row_j1 n (v.f_Key ++ 61 :: dblq v.f_Val) (Lib.trimPrefix (v.f_Key ++ 61 :: dblq v.f_Val) ([101,120,112,111,114,116,32]:BS)) (Lib.hasPrefix (v.f_Key ++ 61 :: dblq v.f_Val) ([101,120,112,111,114,116,32]:BS)) (S_api_Var.mk [] []) = some (v.f_Key ++ 61 :: dblq v.f_Val):=by
  have:=no_ex (r:=dblq v.f_Val) hall
  unfold kEx at this
  rw [this]; rfl
 have hp:Lib.hasPrefix (dblq v.f_Val) [32] = false:=by
  rw [hd_test]
  refine decide_eq_false ?_
  unfold dblq
  simp
 rw [hj,Option.bind_some,if_pos (decide_eq_true (by omega)),hcut]
 simp only [lett]
 rw [if_pos (by rfl),name_Variable_eq n _ (by omega),hk,Option.bind_some,hp,if_neg (by decide),value_back n _ hv hn]
 rfl
theorem text_l (n:Nat) (hn:200000 ≤ n):∀ (l:List Vr) (k no:Nat) (m:Mp12) (all:List Vr),(∀ v ∈ l,isName va1 va2 v.f_Key = true ∧ v.f_Val.length ≤ 100) → l.length < k → (l.flatMap ln12).length ≤ 10000 → no + l.length ≤ 10000 → HoldsM m all →
  ∃ m',env_Parse_l1 n k (l.flatMap ln12) ((no + 1:Nat):Int) m = some (.inl m') ∧ HoldsM m' (all ++ l)
 | [],k,no,m,all,_,hk,_,_,h=>by
  obtain ⟨k,rfl⟩:∃ k',k = k' + 1:=⟨k - 1,by omega⟩
  exact ⟨m,rfl,by rw [List.append_nil]; exact h⟩
 | v :: l,k,no,m,all,hb,hk,hlen,hno,h=>by
  obtain ⟨k,rfl⟩:∃ k',k = k' + 1:=⟨k - 1,by omega⟩
  obtain ⟨b1,b2⟩:=hb v List.mem_cons_self
  rw [List.length_cons] at hk hno
  rw [List.flatMap_cons,List.length_append] at hlen
  obtain ⟨m',h1,h2⟩:=text_l n hn l k (no + 1) (mput m (.inl v.f_Key) ⟨v.f_Val⟩) (all ++ [v]) (fun x hx=>hb x (List.mem_cons_of_mem _ hx)) (by omega) (by omega) (by omega) (h.put v)
  refine ⟨m',?_,by rw [List.append_assoc] at h2; exact h2⟩
  have hs:(v :: l).flatMap ln12 = (v.f_Key ++ 61 :: dblq v.f_Val) ++ 10 :: l.flatMap ln12:=by
   rw [List.flatMap_cons]
   unfold ln12
   simp
  have h10:(10:UInt8) ∉ v.f_Key ++ 61 :: dblq v.f_Val:=by
   rw [List.mem_append,List.mem_cons]
   rintro (h | h | h)
   ·exact (va_not _ (name_all b1 _ h)).2.2.1 rfl
   ·revert h; decide
   ·exact dblq10 _ h
  have hne:(!((v :: l).flatMap ln12 == ([]:BS))) = true:=by
   have:((v :: l).flatMap ln12 == ([]:BS)) = false:=by rw [beq_eq_false_iff_ne,hs]; simp
   rw [this]; rfl
  have hkne:(v.f_Key == ([]:BS)) = false:=by rw [beq_eq_false_iff_ne]; exact (isName_len b1).2
  have hj:env_Parse_j2 n ((v :: l).flatMap ln12) ((no + 1:Nat):Int) m = some (.inl (l.flatMap ln12,mput m (.inl v.f_Key) ⟨v.f_Val⟩)):=by
   unfold env_Parse_j2
   rw [if_pos (decide_eq_true (by rw [List.flatMap_cons,List.length_append]; omega)),hs,cut_eq,upto_app h10]
   simp only
   rw [row_back n v b1 (by omega) (by omega),Option.bind_some]
   simp only [hkne]
   rfl
  rw [env_Parse_l1,if_pos hne,hj,Option.bind_some]
  simp only [Sum.elim_inl]
  rw [wrap_s (no + 1) (by omega)]
  exact h1
theorem first_map (g:BS → BS) (x:BS):∀ ks:List BS,firstV (ks.map fun k=>(⟨k,g k⟩:Vr)) x = if x ∈ ks then some (g x) else none
 | []=>rfl
 | k :: r=>by
  rw [List.map_cons,firstV_cons,first_map g x r]
  by_cases h:k = x
  ·rw [if_pos h,if_pos (by rw [h]; exact List.mem_cons_self),h]
  ·rw [if_neg h]
   by_cases h2:x ∈ r
   ·rw [if_pos h2,if_pos (List.mem_cons_of_mem _ h2)]
   ·rw [if_neg h2,if_neg (fun h3=>(List.mem_cons.1 h3).elim (fun e=>h e.symm) h2)]
theorem first_gat (l:List Vr) (x:BS):firstV (gat l) x = lastV l x:=by
 unfold gat
 rw [first_map (fun k=>(lastV l k).getD [])]
 by_cases h:x ∈ l.map (·.f_Key)
 ·rw [if_pos (mem_srt.2 h)]
  obtain ⟨v,hv⟩:=lastV_some h
  rw [hv]; rfl
 ·rw [if_neg (fun h2=>h (mem_srt.1 h2)),lastV_none h]
theorem gat_gat (l:List Vr):gat (gat l) = gat l:=by
 have h1:(gat (gat l)) = (srt (l.map (·.f_Key))).map fun k=>⟨k,(lastV (gat l) k).getD []⟩:=by
  show (srt ((gat l).map (·.f_Key))).map _ = _
  rw [gat_keys,srt_of_asc (asc_srt _)]
 rw [h1]
 show _ = (srt (l.map (·.f_Key))).map _
 refine List.map_congr_left fun k _=>?_
 rw [← first_last (by rw [gat_keys]; exact (asc_srt _).nodup),first_gat]
theorem lastV_app (x y:List Vr) (k:BS):lastV (x ++ y) k = (lastV y k).or (lastV x k):=by
 unfold lastV
 rw [List.reverse_append,List.find?_append]
 cases y.reverse.find? (fun v=>v.f_Key == k) <;> rfl
theorem text_back (n:Nat) (hn:200000 ≤ n) (l:List Vr) (hg:gat l = l) (hl:l.length ≤ 64) (hb:∀ v ∈ l,isName va1 va2 v.f_Key = true ∧ v.f_Val.length ≤ 100) (ht:(l.flatMap ln12).length ≤ 8192):env_Parse n (l.flatMap ln12) = some (l,0,0):=by
 obtain ⟨m,h1,h2⟩:=text_l n hn l n 0 [] [] hb (by omega) (by omega) (by omega) HoldsM.nil
 rw [List.nil_append] at h2
 have h1:env_Parse_l1 n n (l.flatMap ln12) 1 [] = some (.inl m):=h1
 have hS:Short l:=fun v hv=>(hb v hv).1
 have hm:m.length = l.length:=by
  have:=congrArg List.length hg
  rw [h2.keys.2,← this]
  unfold gat
  rw [List.length_map]
 unfold env_Parse
 rw [if_neg (by rw [decide_eq_false (by omega:¬ ((l.flatMap ln12).length:Int) > 8192)]; decide),h1,Option.bind_some]
 simp only [Sum.elim_inl]
 rw [if_neg (by simp; omega),told_eq n m l h2 hS (by omega) hn,Option.bind_some,hg]
theorem asc_l2 (n:Nat) (l:List Vr) (hl:l.length ≤ 100000) (hn:l.length < n) (ha:Asc (l.map (·.f_Key))):law12_EnvOver_l2 n l n 1 = some (.inl ()):=by
 have e:∀ l:List Vr,l.findSome? (fun _=>(none:Option Bool)) = none:=by
  intro l
  induction l with
  | nil=>rfl
  | cons a r ih=>rw [List.findSome?_cons]; exact ih
 by_cases h0:1 ≤ l.length
 ·have:=scanL (L:=law12_EnvOver_l2 n l) l (fun _=>(none:Option Bool)) 1 (by omega)
   (fun k i h h1=>by
    have hi:i - 1 < l.length:=by omega
    have hlt:l[i - 1].f_Key < l[i].f_Key:=by
     have:=List.pairwise_iff_getElem.1 ha (i - 1) i (by rw [List.length_map]; omega) (by rw [List.length_map]; omega) (by omega)
     simpa using this
    rw [law12_EnvOver_l2,if_pos (lt_i h),wrap_p i (by omega) (by omega),if_pos (in_i hi),if_pos (in_i h),at_i h,at_i hi,less_dec,decide_eq_true hlt]
    rfl) (fun k=>by rw [law12_EnvOver_l2,nlt_n]; rfl) n 1 (by omega) (by omega) (by omega)
  rw [show (1:Int) = ((1:Nat):Int) from rfl,this,e]; rfl
 ·have:l = []:=List.eq_nil_of_length_eq_zero (by omega)
  subst this
  obtain ⟨k,rfl⟩:∃ k,n = k + 1:=⟨n - 1,by omega⟩
  rfl
theorem law12_EnvOver_true (a0:List Vr) (_:W_Lapi_Var a0) (a1:List Vr) (_:W_Lapi_Var a1) (a2:BS) (_:List.length a2 ≤ maxLen):∃ n,law12_EnvOver n a0 a1 a2 = some true:=by
 obtain ⟨n,hn⟩:∃ n,n = 600000:=⟨_,rfl⟩
 refine ⟨n,?_⟩
 have haw:=awake12 n (by omega)
 obtain ⟨p,p1,p2⟩:=few12 n a0 30 (by omega) (by omega)
 obtain ⟨q,q1,q2⟩:=few12 n a1 30 (by omega) (by omega)
 have p1:law12_Few n a0 30 = some p:=p1
 have q1:law12_Few n a1 30 = some q:=q1
 unfold law12_EnvOver
 rw [p1,Option.bind_some]
 cases p with
 | false=>rw [if_neg (by decide),Option.bind_some,if_pos (by rfl),haw]; rfl
 | true =>
  rw [if_pos (by rfl),q1,Option.bind_some]
  cases q with
  | false=>rw [if_pos (by rfl),haw]; rfl
  | true =>
   obtain ⟨a1l,a1v⟩:=p2 rfl
   obtain ⟨b1l,b1v⟩:=q2 rfl
   have hmx:=fun v (hv:v ∈ of12 a0)=>of_mem a1v hv
   have hmy:=fun v (hv:v ∈ of12 a1)=>of_mem b1v hv
   have lx:(of12 a0).length ≤ 30:=by
    have h1:=vl_len a0; have h2:=gat_len (vl a0)
    unfold of12; rw [List.length_take]; omega
   have ly:(of12 a1).length ≤ 30:=by
    have h1:=vl_len a1; have h2:=gat_len (vl a1)
    unfold of12; rw [List.length_take]; omega
   have ndx:=(of_asc a0).nodup
   have ndy:=(of_asc a1).nodup
   have hxy:∀ v ∈ of12 a0 ++ of12 a1,isName va1 va2 v.f_Key = true ∧ v.f_Val.length ≤ 100:=fun v hv=>(List.mem_append.1 hv).elim (hmx v) (hmy v)
   have hboth:of12 (of12 a0 ++ of12 a1) = gat (of12 a0 ++ of12 a1):=by
    have h2:=gat_len (of12 a0 ++ of12 a1)
    rw [List.length_append] at h2
    show (gat (vl _)).take 64 = _
    rw [vl_id (fun v hv=>(hxy v hv).1),List.take_of_length_le (by omega)]
   have hbm:=fun v (hv:v ∈ of12 (of12 a0 ++ of12 a1))=>of_mem (fun v hv=>(hxy v hv).2) hv
   have hbl:=of_len (of12 a0 ++ of12 a1)
   have hba:=of_asc (of12 a0 ++ of12 a1)
   have hget:firstV (of12 (of12 a0 ++ of12 a1)) a2 = (firstV (of12 a1) a2).or (firstV (of12 a0) a2):=by
    rw [hboth,first_gat,lastV_app,← first_last ndx,← first_last ndy]
   have hgg:gat (of12 (of12 a0 ++ of12 a1)) = of12 (of12 a0 ++ of12 a1):=by rw [hboth,gat_gat]
   rw [if_neg (by decide),of_eq n a0 (by omega) (by omega),of_eq n a1 (by omega) (by omega),Option.bind_some,Option.bind_some,over_eq n _ _ (by omega) (by omega) (by omega),Option.bind_some]
   clear hboth
   generalize of12 (of12 a0 ++ of12 a1) = l at *
   rw [get_eq n l a2 (by omega) (by omega),get_eq n (of12 a1) a2 (by omega) (by omega),Option.bind_some,Option.bind_some,hget]
   have hj:law12_EnvOver_j1 n a2 (of12 a0) l (((firstV (of12 a1) a2).or (firstV (of12 a0) a2)).getD []) ((firstV (of12 a1) a2).or (firstV (of12 a0) a2)).isSome ((firstV (of12 a1) a2).getD []) (firstV (of12 a1) a2).isSome (!(firstV (of12 a1) a2).isSome) = some (((firstV (of12 a1) a2).or (firstV (of12 a0) a2)).getD [],((firstV (of12 a1) a2).or (firstV (of12 a0) a2)).isSome):=by
    unfold law12_EnvOver_j1
    cases firstV (of12 a1) a2 with
    | some w=>rfl
    | none =>
     rw [if_pos (by rfl),get_eq n (of12 a0) a2 (by omega) (by omega)]; rfl
   rw [hj,Option.bind_some]
   simp only [beq_self_eq_true,Bool.not_true,cond_false,Bool.false_eq_true,if_false]
   rw [asc_l2 n l (by omega) (by omega) hba,Option.bind_some]
   simp only [Sum.elim_inl]
   rw [text_eq n l (by omega) hbm (by omega),Option.bind_some]
   by_cases ht:(l.flatMap ln12).length ≤ 8192
   ·rw [text_back n (by omega) l hgg hbl hbm ht,Option.bind_some,if_neg (by rw [decide_eq_false (by omega:¬ ((l.flatMap ln12).length:Int) > 8192)]; decide),same_self12 n l (by omega) (by omega)]
    simp only [Option.bind_some,beq_self_eq_true,if_true,cond_true,haw]
   ·have hp:env_Parse n (l.flatMap ln12) = some ([],0,9):=by
     unfold env_Parse
     rw [if_pos (decide_eq_true (by omega))]
    rw [hp,Option.bind_some,if_pos (decide_eq_true (by omega))]
    simp only [beq_self_eq_true,if_true,haw,Option.bind_some,cond_true]
end Go.Proofs.YtibgdilkodjojaaDoor.M
