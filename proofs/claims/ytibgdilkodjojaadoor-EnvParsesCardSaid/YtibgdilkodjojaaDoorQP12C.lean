import Derived.Test.YtibgdilkodjojaaDoorQP12B
set_option linter.all false
namespace Go.Proofs.YtibgdilkodjojaaDoor.M
open Go Go.Proofs.YtibgdilkodjojaaDoor.RX Go.Proofs.YtibgdilkodjojaaDoor.PL
set_option maxRecDepth 100000
theorem last_l1 (n:Nat) (l:List Vr) (x:BS) (hl:l.length ≤ 100000):∀ (j k:Nat),j ≤ l.length → j < k → ref12_Last_l1 n l x k ((j:Int) - 1) = some (match lastV (l.take j) x with | none=>.inl () | some v=>.inr (v,true))
 | 0,k,_,h=>by
  obtain ⟨k,rfl⟩:∃ k',k = k' + 1:=⟨k - 1,by omega⟩
  rw [ref12_Last_l1,if_neg (by simp)]; rfl
 | j + 1,k,hj,h=>by
  obtain ⟨k,rfl⟩:∃ k',k = k' + 1:=⟨k - 1,by omega⟩
  have hx:(((j + 1:Nat):Int) - 1) = (j:Int):=by omega
  rw [ref12_Last_l1,hx,if_pos (decide_eq_true (by omega)),if_pos (in_i (by omega)),at_i (by omega:j < l.length),List.take_succ_eq_append_getElem (by omega),lastV_snoc]
  by_cases hk:l[j].f_Key = x
  ·rw [if_pos (by rw [hk]; exact beq_self_eq_true _),if_pos (in_i (by omega)),if_pos hk]
  ·rw [if_neg (by simpa using hk),if_neg hk,wrap_id _ (by omega) (by omega)]
   exact last_l1 n l x hl j k (by omega) (by omega)
theorem last_eq (n:Nat) (l:List Vr) (x:BS) (hl:l.length ≤ 100000) (hn:l.length < n):ref12_Last n l x = some ((lastV l x).getD [],(lastV l x).isSome):=by
 unfold ref12_Last
 have:=last_l1 n l x hl l.length n (Nat.le_refl _) hn
 rw [List.take_length] at this
 rw [wrap_id _ (by omega) (by omega),this]
 cases lastV l x <;> rfl
def vl (l:List Vr):List Vr:=l.filter fun v=>isName va1 va2 v.f_Key
theorem vl_short (l:List Vr):Short (vl l):=fun v h=>(List.mem_filter.1 h).2
theorem vl_id {l:List Vr} (h:Short l):vl l = l:=List.filter_eq_self.2 h
theorem lastV_vl {x:BS} (hx:isName va1 va2 x = true) (l:List Vr):lastV (vl l) x = lastV l x:=by
 unfold lastV vl
 rw [← List.filter_reverse]
 generalize l.reverse = r
 congr 1
 induction r with
 | nil=>rfl
 | cons v r ih =>
  rw [List.filter_cons,List.find?_cons]
  by_cases hk:v.f_Key = x
  ·have hb:(v.f_Key == x) = true:=by rw [hk]; exact beq_self_eq_true _
   rw [if_pos (by rw [hk]; exact hx),List.find?_cons,hb]
  ·have hb:(v.f_Key == x) = false:=by rw [beq_eq_false_iff_ne]; exact hk
   rw [hb]
   split
   ·rw [List.find?_cons,hb]; exact ih
   ·exact ih
theorem vl_len (l:List Vr):(vl l).length ≤ l.length:=List.length_filter_le ..
theorem gat_l1 (n:Nat) (l:List Vr) (hl:l.length ≤ 100000) (hn:l.length < n) (hn2:100 ≤ n):ref12_Gathered_l1 n l n [] 0 = some ((vl l).map (·.f_Key)):=by
 have:=(gather (L:=ref12_Gathered_l1 n l) l (fun (acc:List BS) v=>if isName va1 va2 v.f_Key = true then acc ++ [v.f_Key] else acc) id (fun i acc=>acc.length ≤ i) (by omega)
  (fun k acc i h hI=>by
   rw [ref12_Gathered_l1,if_pos (lt_i h)]
   unfold ref12_Gathered_j2
   rw [if_pos (in_i h),at_i h,ref02_Variable_eq n _ hn2,Option.bind_some]
   cases isName va1 va2 l[i].f_Key with
   | true=>rw [if_pos rfl,if_pos rfl,if_pos (in_i h),if_pos (cap_add (by simp; omega))]; rfl
   | false=>rfl)
  (fun acc i h hI=>by
   show (if isName va1 va2 l[i].f_Key = true then acc ++ [l[i].f_Key] else acc).length ≤ i + 1
   split
   ·rw [List.length_append]; exact Nat.succ_le_succ hI
   ·omega)
  (fun k acc _=>by rw [ref12_Gathered_l1,nlt_n]; rfl) n 0 [] (by omega) (by omega) (by simp)).1
 rw [show (0:Int) = ((0:Nat):Int) from rfl,this,List.drop_zero]
 congr 1
 have:∀ (l:List Vr) (acc:List BS),l.foldl (fun (acc:List BS) v=>if isName va1 va2 v.f_Key = true then acc ++ [v.f_Key] else acc) acc = acc ++ (vl l).map (·.f_Key):=by
  intro l
  induction l with
  | nil=>intro acc; simp [vl]
  | cons v r ih =>
   intro acc
   rw [List.foldl_cons,ih]
   unfold vl
   rw [List.filter_cons]
   split <;> simp
 exact (this l []).trans (List.nil_append _)
theorem gat_l3 (n:Nat) (l:List Vr) (ks:List BS) (hl:l.length ≤ 100000) (hn:l.length < n) (hk:ks.length ≤ 100000) (hn2:ks.length < n):ref12_Gathered_l3 n l ks n [] 0 = some (ks.map fun k=>⟨k,(lastV l k).getD []⟩):=by
 have:=(gather (L:=ref12_Gathered_l3 n l ks) ks (fun (acc:List Vr) k=>acc ++ [⟨k,(lastV l k).getD []⟩]) id (fun i acc=>acc.length ≤ i) (by omega)
  (fun k acc i h hI=>by
   rw [ref12_Gathered_l3,if_pos (lt_i h),if_pos (in_i h),at_i h,last_eq n l _ hl hn,Option.bind_some,if_pos (in_i h),if_pos (cap33 (by simp; omega))])
  (fun acc i h hI=>by rw [List.length_append]; simpa using hI)
  (fun k acc _=>by rw [ref12_Gathered_l3,nlt_n]; rfl) n 0 [] (by omega) (by omega) (by simp)).1
 rw [show (0:Int) = ((0:Nat):Int) from rfl,this,List.drop_zero,foldl_snoc,List.nil_append]; rfl
theorem gathered_eq (n:Nat) (l:List Vr) (hl:l.length < 10000) (hn:200000 ≤ n):ref12_Gathered n l = some (gat (vl l)):=by
 have h1:=vl_len l
 have hle:=srt_length_le ((vl l).map (·.f_Key))
 rw [List.length_map] at hle
 unfold ref12_Gathered
 rw [gat_l1 n l (by omega) (by omega) (by omega),Option.bind_some,ref02_Sorted_eq n _ (by rw [List.length_map]; omega) (by omega),Option.bind_some,gat_l3 n l _ (by omega) (by omega) (by omega) (by omega),Option.bind_some]
 congr 1
 unfold gat
 refine List.map_congr_left fun k hk=>?_
 obtain ⟨v,hv,e⟩:=List.mem_map.1 (mem_srt.1 hk)
 rw [lastV_vl (by rw [← e]; exact vl_short l v hv)]
theorem par_l (n:Nat) (hn:200000 ≤ n):∀ (k:Nat) (s:BS) (no:Nat) (m:Mp12) (all:List Vr),s.length < k → s.length ≤ 8192 → no + s.length ≤ 8192 → HoldsM m all → Short all → all.length ≤ no →
  (∃ m' all',env_Parse_l1 n k s ((no + 1:Nat):Int) m = some (.inl m') ∧ ref12_Parse_l1 n k s all (no:Int) = some (.inl all') ∧ HoldsM m' all' ∧ Short all' ∧ all'.length ≤ 8192) ∨ ∃ no':Int,env_Parse_l1 n k s ((no + 1:Nat):Int) m = some (.inr (no',3)) ∧ ref12_Parse_l1 n k s all (no:Int) = some (.inr (no',3))
 | 0,s,no,m,all,h,_,_,_,_,_=>by omega
 | k + 1,[],no,m,all,h,h1,h2,h3,h4,h5=>.inl ⟨m,all,rfl,rfl,h3,h4,by omega⟩
 | k + 1,c :: t,no,m,all,h,h1,h2,h3,h4,h5=>by
  have hne:(!((c :: t) == ([]:BS))) = true:=rfl
  have hp:decide (((c :: t).length:Int) > 0) = true:=decide_eq_true (by rw [List.length_cons]; omega)
  have h0:1 ≤ (c :: t).length:=by rw [List.length_cons]; omega
  generalize hs:c :: t = s at *
  have hw:IntKind.wrap .i64 ((no:Int) + 1) = ((no + 1:Nat):Int):=wrap_s no (by omega)
  have hq:=rp_l2 n s all ((no + 1:Nat):Int) (by omega) n 0 (by omega) (by omega)
  rw [show ((0:Nat):Int) = 0 from rfl,List.drop_zero,Nat.zero_add] at hq
  have hqi:=ps12_len 10 s
  have hll:(s.take (ps12 10 s)).length ≤ 8192:=by rw [List.length_take]; omega
  obtain ⟨x,y,ok,r1,r2,r3⟩:=row_eq n (s.take (ps12 10 s)) (by omega) (by omega)
  have hcut:(Lib.cut s [10]).1 = s.take (ps12 10 s) ∧ (Lib.cut s [10]).2.1 = s.drop (ps12 10 s + 1):=by
   rw [cut_ps]
   by_cases hlt:ps12 10 s < s.length
   ·rw [if_pos hlt]; exact ⟨rfl,rfl⟩
   ·rw [if_neg hlt,show ps12 10 s = s.length by omega,List.take_length,List.drop_eq_nil_of_le (by omega)]; exact ⟨rfl,rfl⟩
  rw [env_Parse_l1,ref12_Parse_l1,if_pos hne,if_pos hp,hw,hq,Option.bind_some,if_pos (le_i hqi),tn,r2,Option.bind_some]
  have hj:env_Parse_j2 n s ((no + 1:Nat):Int) m = some (if ok = false then .inr (((no + 1:Nat):Int),3) else .inl (s.drop (ps12 10 s + 1),if x.f_Key = [] then m else mput m (.inl x.f_Key) ⟨x.f_Val⟩)):=by
   unfold env_Parse_j2
   rw [if_pos (decide_eq_true (by omega)),hcut.1,r1,Option.bind_some,hcut.2]
   cases ok with
   | false=>rfl
   | true =>
    rw [if_neg (show ¬ (!((x,true):Vr × Bool).2) = true from Bool.false_ne_true),if_neg (show ¬ true = false by decide)]
    by_cases hk:x.f_Key = []
    ·rw [if_neg (show ¬ (!(((x,true):Vr × Bool).1.f_Key == [])) = true by rw [hk]; decide),if_pos hk]
    ·rw [if_pos (show (!(((x,true):Vr × Bool).1.f_Key == [])) = true by simpa using hk),if_neg hk]
  rw [hj,Option.bind_some]
  cases ok with
  | false=>exact .inr ⟨_,rfl,rfl⟩
  | true =>
   obtain ⟨rfl,hkey⟩:=r3 rfl
   rw [if_neg (show ¬ true = false by decide),if_neg (show ¬ (!((x,true):Vr × Bool).2) = true from Bool.false_ne_true)]
   have hj3:ref12_Parse_j3 n s all ((no + 1:Nat):Int) ((ps12 10 s:Nat):Int) (decide ((x.f_Key.length:Int) > 0)) x = some (if x.f_Key = [] then all else all ++ [x]):=by
    unfold ref12_Parse_j3
    rw [len_test]
    by_cases hk:x.f_Key = []
    ·rw [if_neg (by rw [hk]; decide),if_pos hk]
    ·rw [if_pos (by simpa using hk),if_neg hk,if_pos (cap33 (by simp; omega))]
   show (∃ m' all',env_Parse_l1 n k _ _ _ = _ ∧ (ref12_Parse_j3 n s all _ _ _ x).bind _ = _ ∧ _) ∨ _
   rw [hj3,Option.bind_some]
   have hA:HoldsM (if x.f_Key = [] then m else mput m (.inl x.f_Key) ⟨x.f_Val⟩) (if x.f_Key = [] then all else all ++ [x]):=by
    by_cases hk:x.f_Key = []
    ·rw [if_pos hk,if_pos hk]; exact h3
    ·rw [if_neg hk,if_neg hk]; exact h3.put x
   have hB:Short (if x.f_Key = [] then all else all ++ [x]):=by
    by_cases hk:x.f_Key = []
    ·rw [if_pos hk]; exact h4
    ·rw [if_neg hk]
     intro v hv
     rcases List.mem_append.1 hv with hv | hv
     ·exact h4 v hv
     ·rw [List.mem_singleton.1 hv]; exact hkey.resolve_left hk
   have hC:(if x.f_Key = [] then all else all ++ [x]).length ≤ no + 1:=by
    split
    ·omega
    ·simp; omega
   generalize (if x.f_Key = [] then m else mput m (.inl x.f_Key) ⟨x.f_Val⟩) = m2 at *
   generalize (if x.f_Key = [] then all else all ++ [x]) = all2 at *
   have hw2:IntKind.wrap .i64 (((no + 1:Nat):Int) + 1) = ((no + 1 + 1:Nat):Int):=wrap_s (no + 1) (by omega)
   simp only [Sum.elim_inl,hw2]
   by_cases hlt:ps12 10 s < s.length
   ·have e1:(((ps12 10 s:Nat):Int) == (s.length:Int)) = false:=by rw [beq_eq_false_iff_ne]; omega
    have ew:IntKind.wrap .i64 (((ps12 10 s:Nat):Int) + 1) = ((ps12 10 s + 1:Nat):Int):=wrap_s _ (by omega)
    rw [if_neg (by rw [e1]; decide),ew,if_pos (le_i (by omega:ps12 10 s + 1 ≤ s.length)),tn]
    exact par_l n hn k (s.drop (ps12 10 s + 1)) (no + 1) m2 all2 (by rw [List.length_drop]; omega) (by rw [List.length_drop]; omega) (by rw [List.length_drop]; omega) hA hB hC
   ·have e0:ps12 10 s = s.length:=by omega
    rw [if_pos (by rw [e0]; exact beq_self_eq_true _),List.drop_eq_nil_of_le (by omega)]
    obtain ⟨k,rfl⟩:∃ k',k = k' + 1:=⟨k - 1,by omega⟩
    exact .inl ⟨m2,all2,rfl,rfl,hA,hB,by omega⟩
theorem parse_eq (n:Nat) (s:BS) (hn:200000 ≤ n):∃ l no e,env_Parse n s = some (l,no,e) ∧ ref12_Parse n s = some (l,no,e) ∧ l.length ≤ 64:=by
 unfold env_Parse ref12_Parse
 by_cases h:s.length ≤ 8192
 ·rw [if_neg (by simp; omega),if_neg (by simp; omega)]
  rcases par_l n hn n s 0 [] [] (by omega) h (by omega) HoldsM.nil (fun v hv=>by cases hv) (Nat.le_refl _) with ⟨m,all,h1,h2,h3,h4,h5⟩ | ⟨no,h1,h2⟩
  ·have h1:env_Parse_l1 n n s 1 [] = some (.inl m):=h1
   have h2:ref12_Parse_l1 n n s [] 0 = some (.inl all):=h2
   have hg:m.length = (gat all).length:=by rw [h3.keys.2]; unfold gat; rw [List.length_map]
   rw [h1,h2,Option.bind_some,Option.bind_some]
   simp only [Sum.elim_inl]
   rw [gathered_eq n all (by omega) hn,vl_id h4,Option.bind_some,hg,told_eq n m all h3 h4 (by omega) hn,Option.bind_some]
   by_cases h6:(gat all).length ≤ 64
   ·rw [if_neg (by simp; omega)]
    exact ⟨_,_,_,rfl,rfl,h6⟩
   ·rw [if_pos (decide_eq_true (by omega))]
    exact ⟨_,_,_,rfl,rfl,Nat.zero_le _⟩
  ·have h1:env_Parse_l1 n n s 1 [] = some (.inr (no,3)):=h1
   have h2:ref12_Parse_l1 n n s [] 0 = some (.inr (no,3)):=h2
   rw [h1,h2,Option.bind_some,Option.bind_some]
   exact ⟨[],no,3,rfl,rfl,Nat.zero_le _⟩
 ·rw [if_pos (decide_eq_true (by omega)),if_pos (decide_eq_true (by omega))]
  exact ⟨[],0,9,rfl,rfl,Nat.zero_le _⟩
theorem same_self12 (n:Nat) (l:List Vr) (hl:l.length ≤ 100000) (hn:l.length < n):ref12_Same n l l = some true:=by
 unfold ref12_Same
 have:=scanL (L:=ref12_Same_l1 n l l) l (fun _=>(none:Option Bool)) 0 (by omega)
  (fun k i h _=>by
   rw [ref12_Same_l1,if_pos (lt_i h),if_pos (in_i h),if_pos (in_i h),beq_self_eq_true,beq_self_eq_true]
   rfl) (fun k=>by rw [ref12_Same_l1,nlt_n]; rfl) n 0 (by omega) (by omega) (by omega)
 rw [if_neg (by simp),show (0:Int) = ((0:Nat):Int) from rfl,this,List.drop_zero]
 have e:∀ l:List Vr,l.findSome? (fun _=>(none:Option Bool)) = none:=by
  intro l
  induction l with
  | nil=>rfl
  | cons a r ih=>rw [List.findSome?_cons]; exact ih
 rw [e]; rfl
end Go.Proofs.YtibgdilkodjojaaDoor.M
