import Derived.Test.YtaecmkldkljioaaGreatQP35I
set_option linter.all false
namespace Go.Proofs.YtaecmkldkljioaaGreat.M
open Go Go.Proofs.YtaecmkldkljioaaGreat.RX Go.Proofs.YtaecmkldkljioaaGreat.PL
set_option maxRecDepth 100000
def toWH (h:PH):S_ref35_Host:=⟨toW h.st,toPl h.plan,h.now⟩
theorem first35_eq (n:Nat) (v:Int) (W:S_ref35_Host) (p:PS) (hW:W.f_S = toW p) (hb:p.bs.length ≤ 1000):∀ (k i:Nat) (o:Option Nat),i ≤ p.bs.length → p.bs.length - i < k → (∀ j,o = some j → j < p.bs.length) →
  ∃ o':Option Nat,ref35_first_l1 n v W k (ofI o) (i:Int) = some (ofI o') ∧ (p.bs.drop i).foldl (stepF v) (o.bind fun j=>p.bs[j]?) = (o'.bind fun j=>p.bs[j]?) ∧ (∀ j,o' = some j → j < p.bs.length)
 | 0,i,o,_,h,_=>by omega
 | k + 1,i,o,h1,h2,h3=>by
  have hlen:W.f_S.f_Boxes.length = p.bs.length:=by rw [hW]; simp [toW]
  have hgetj:∀ j:Nat,j < p.bs.length → (W.f_S.f_Boxes[Int.toNat (j:Int)]?.getD Z_ref32_Box) = toR (p.bs[j]?.getD Z_life_Box):=fun j hj=>by
   rw [at_i (by omega),List.getElem?_eq_getElem hj]
   simp [hW,toW]
  by_cases h:i < p.bs.length
  ·have hi':i < W.f_S.f_Boxes.length:=by omega
   have ej:∃ o1:Option Nat,ref35_first_j2 n v (ofI o) (i:Int) W = some (ofI o1) ∧ stepF v (o.bind fun j=>p.bs[j]?) p.bs[i] = (o1.bind fun j=>p.bs[j]?) ∧ (∀ j,o1 = some j → j < p.bs.length):=by
    unfold ref35_first_j2
    rw [if_pos (in_i hi'),hgetj i h,List.getElem?_eq_getElem h,next_eq]
    simp only [lett,Option.getD_some]
    unfold stepF
    by_cases c1:(bif decide (life_Next p.bs[i] < 0) then true else decide (life_Next p.bs[i] > v)) = true
    ·rw [if_pos c1]
     refine ⟨o,rfl,?_,h3⟩
     have this2:(bif decide (life_Next p.bs[i] ≥ 0) then decide (life_Next p.bs[i] ≤ v) else false) = false:=by
      simp only [Bool.cond_true_left,Bool.or_eq_true,decide_eq_true_eq] at c1
      rw [Bool.cond_false_right,Bool.and_eq_false_iff,decide_eq_false_iff_not,decide_eq_false_iff_not]
      omega
     rw [if_neg (by rw [this2]; simp)]
    ·rw [if_neg c1]
     simp only [Bool.cond_true_left,Bool.or_eq_true,decide_eq_true_eq] at c1
     have c2:(bif decide (life_Next p.bs[i] ≥ 0) then decide (life_Next p.bs[i] ≤ v) else false) = true:=by
      rw [Bool.cond_false_right,Bool.and_eq_true,decide_eq_true_eq,decide_eq_true_eq]
      omega
     rw [c2]
     cases o with
     | none =>
      rw [if_pos (by rfl),if_pos (by rfl)]
      refine ⟨some i,rfl,?_,fun j hj=>by cases hj; exact h⟩
      simp [h]
     | some j =>
      have hj:=h3 j rfl
      rw [show ofI (some j) = (j:Int) from rfl,if_pos (by rw [in_i (show j < W.f_S.f_Boxes.length by omega)]; simp),hgetj j hj,List.getElem?_eq_getElem hj,next_eq]
      have n0:decide ((j:Int) < 0) = false:=decide_eq_false (by omega)
      simp only [n0,cond_false,cond_true,Option.getD_some,Option.bind_some,List.getElem?_eq_getElem hj]
      by_cases c3:life_Next p.bs[i] < life_Next p.bs[j]
      ·rw [if_pos (decide_eq_true c3),if_pos (decide_eq_true c3)]
       refine ⟨some i,rfl,?_,fun j hj=>by cases hj; exact h⟩
       simp [h]
      ·rw [if_neg (by simpa using c3),if_neg (by simpa using c3)]
       exact ⟨some j,rfl,by simp [hj],h3⟩
   obtain ⟨o1,e1,e2,e3⟩:=ej
   obtain ⟨o',f1,f2,f3⟩:=first35_eq n v W p hW hb k (i + 1) o1 (by omega) (by omega) e3
   refine ⟨o',?_,?_,f3⟩
   ·rw [ref35_first_l1,if_pos (lt_i hi'),e1,Option.bind_some,wrap_s i (by omega)]
    exact f1
   ·rw [drop_at h,List.foldl_cons,e2]
    exact f2
  ·have:i = p.bs.length:=by omega
   subst this
   refine ⟨o,?_,?_,h3⟩
   ·rw [ref35_first_l1,hlen,nlt_n]; rfl
   ·rw [List.drop_eq_nil_of_le (Nat.le_refl _)]; rfl
theorem idx_of {k:Nat} {p:PS} (h:Inv k p) {i:Nat} (hi:i < p.bs.length):p.bs.findIdx? (qI p.bs[i].f_Id) = some i:=by
 have hf:=find_in h (List.getElem_mem hi)
 rw [find_idx] at hf
 cases hj:p.bs.findIdx? (qI p.bs[i].f_Id) with
 | none=>rw [hj] at hf; cases hf
 | some j =>
  have hjl:=idx_some hj
  rw [hj,Option.bind_some,List.getElem?_eq_getElem hjl,Option.some.injEq] at hf
  have e:(p.bs.map kI)[j]? = (p.bs.map kI)[i]?:=by
   rw [List.getElem?_map,List.getElem?_map,List.getElem?_eq_getElem hjl,List.getElem?_eq_getElem hi,hf]
  rw [(List.getElem?_inj (by simpa using hjl) h.idnod).1 e]
theorem tickR_eq (n:Nat) (v:Int) (k0:Nat) (hn:100000 ≤ n) (Z:S_ref35_Host):∀ (k:Nat) (acc:List S_host_Event) (h:PH),HInv k0 h → acc.length + k ≤ 100000000000 →
  ref35_Tick_l3 n v k acc (toWH h) Z = (tickL k v acc h.st).map fun r=>(r.1,toWH ⟨r.2,h.plan,v⟩)
 | 0,_,_,_,_=>rfl
 | k + 1,acc,h,hi,hl=>by
  have h64:=hi.st.boxes
  have hlen:(toWH h).f_S.f_Boxes.length = h.st.bs.length:=by simp [toWH,toW]
  obtain ⟨o,e1,e2,e3⟩:=first35_eq n v (toWH h) h.st rfl (by omega) n 0 none (by omega) (by omega) (fun j hj=>by cases hj)
  have e1:ref35_first_l1 n v (toWH h) n (-1) 0 = _:=e1
  have e2:firstP v h.st.bs = o.bind fun j=>h.st.bs[j]?:=e2
  rw [ref35_Tick_l3,tickL]
  unfold ref35_first
  rw [e1,Option.bind_some,Option.bind_some,ofI_neg,e2]
  cases o with
  | none=>rfl
  | some j =>
   have hj:=e3 j rfl
   rw [Option.bind_some,List.getElem?_eq_getElem hj] at e2
   obtain ⟨hb,hb0,hb1⟩:=first_sound e2
   have hid:=tick_id h.st.bs[j] v
   have hg:((toWH h).f_S.f_Boxes[Int.toNat (j:Int)]?.getD Z_ref32_Box) = toR h.st.bs[j]:=by rw [at_i (by omega)]; simp [toWH,toW]
   rw [if_neg (show ¬ (Option.isNone (some j)) = true by simp),show ofI (some j) = (j:Int) from rfl,if_pos (in_i (by omega)),hg,Option.bind_some,List.getElem?_eq_getElem hj]
   simp only [lett,next_eq,seen32_eq,tick_eq]
   have hput:ref33_Put n (toWH h).f_S (toR (life_Tick h.st.bs[j] v).1) = some (toW (h.st.setB (life_Tick h.st.bs[j] v).1)) :=
    put33S_eq n h.st _ j (by rw [hid.1]; exact idx_of hi.st hj) (by omega) hn
   rw [hput,Option.bind_some]
   have hev:=evP_len h.st.bs[j] v
   have ih:=tickR_eq n v k0 hn Z k (acc ++ evP h.st.bs[j] v) ⟨h.st.setB (life_Tick h.st.bs[j] v).1,h.plan,h.now⟩ (hi.setB hb hid.1 hid.2) (by rw [List.length_append]; omega)
   rcases tick_code hb0 hb1 with hc | hc
   ·have he:evP h.st.bs[j] v = if ((seenB (life_Tick h.st.bs[j] v).1).f_Health != (seenB h.st.bs[j]).f_Health) = true then [⟨life_Next h.st.bs[j],3,h.st.bs[j].f_Id,(seenB (life_Tick h.st.bs[j] v).1).f_Health⟩] else []:=by unfold evP; rw [if_neg (by omega)]
    rw [if_neg (by rw [hc]; decide)]
    by_cases hh:((seenB (life_Tick h.st.bs[j] v).1).f_Health != (seenB h.st.bs[j]).f_Health) = true
    ·rw [if_pos hh] at he
     rw [he] at ih ⊢
     rw [if_pos hh,if_pos (lim33 (by simp only [List.length_cons,List.length_nil]; omega))]
     exact ih
    ·rw [if_neg hh] at he
     rw [he,List.append_nil] at ih ⊢
     rw [if_neg hh]
     exact ih
   ·have he:evP h.st.bs[j] v = [⟨life_Next h.st.bs[j],2,h.st.bs[j].f_Id,0⟩]:=by unfold evP; rw [if_pos hc]
    rw [he] at ih ⊢
    rw [if_pos (by rw [hc]; decide),if_pos (lim33 (by simp only [List.length_cons,List.length_nil]; omega))]
    exact ih
structure QInv (k:Nat) (h:PH):Prop where
 inv:HInv k h
 plan:GInv (100000 + 1000 * k) h.plan
 now0:0 ≤ h.now
 nowk:h.now ≤ 10000 * k
def clampP (x:Int):Int:=if (10000:Int) < (if (0:Int) > x then 0 else x) then 10000 else (if (0:Int) > x then 0 else x)
theorem clampP_in (x:Int):0 ≤ clampP x ∧ clampP x ≤ 10000:=by
 unfold clampP
 repeat' split
 all_goals omega
theorem clampR (n:Nat) (x:Int) (W Z:S_ref35_Host):((ref35_Tick_j1 n x (decide (x < 0)) W Z).bind fun o1=>ref35_Tick_j2 n o1 (decide (o1 > 10000)) W Z) = some (clampP x):=by
 unfold ref35_Tick_j1 ref35_Tick_j2 clampP
 by_cases h1:x < 0
 ·rw [if_pos (decide_eq_true h1),if_pos (show (0:Int) > x from h1)]; rfl
 ·rw [if_neg (by simpa using h1),if_neg (show ¬ (0:Int) > x by omega),Option.bind_some]
  by_cases h2:x > 10000
  ·rw [if_pos (decide_eq_true h2),if_pos (by omega)]
  ·rw [if_neg (by simpa using h2),if_neg (by omega)]
theorem wrap_now {k:Nat} {h:PH} (hi:QInv k h) (hk:k ≤ 200) (x:Int):IntKind.wrap .i64 (h.now + clampP x) = h.now + clampP x:=by
 have hc:=clampP_in x
 have h0:=hi.now0
 have h1:=hi.nowk
 exact wrap_id _ (by omega) (by omega)
theorem tickL_len:∀ (k:Nat) (v:Int) (acc:List S_host_Event) (p:PS) (r:List S_host_Event × PS),tickL k v acc p = some r → r.1.length ≤ acc.length + k
 | 0,_,_,_,_,h=>by cases h
 | k + 1,v,acc,p,r,h=>by
  rw [tickL] at h
  cases hf:firstP v p.bs with
  | none=>rw [hf] at h; cases h; dsimp only; omega
  | some b =>
   rw [hf] at h
   have:=tickL_len k v _ _ r h
   have hev:=evP_len b v
   rw [List.length_append] at this
   omega
theorem Tick_eq (n:Nat) (hn:n = 1000000000) {k:Nat} {h:PH} (hi:HInv k h) (hk:k ≤ 200) (x:Int) (hw:IntKind.wrap .i64 (h.now + clampP x) = h.now + clampP x) {ev:List S_host_Event} {p:PS} (ht:tickL n (h.now + clampP x) [] h.st = some (ev,p)) :
  host_Host_Tick__o0 n x h.toH = some (ev,(⟨p,h.plan,h.now + clampP x⟩:PH).toH):=by
 unfold host_Host_Tick__o0
 simp only [lett]
 show (host_Host_Tick__o0_l1 n (IntKind.wrap .i64 (h.now + clampP x)) n [] h.toH).bind _ = _
 rw [hw,tickL_eq n _ k (by omega) (by omega) n [] h hi (by simp only [List.length_nil]; omega),ht]
 show some (ev,S_host_Host.mk _ _ (IntKind.wrap .i64 (h.now + clampP x))) = _
 rw [hw]; rfl
theorem Events_eq (n:Nat) (l:List S_host_Event) (h:l.length ≤ 1000000000 - 1) (hn:n = 1000000000):law35_Events n l = some l:=by
 unfold law35_Events
 have:=gather (L:=law35_Events_l1 n l) l (fun acc x=>acc ++ [x]) id (fun i s=>s.length = i) (by omega)
  (fun k s i h hs=>by rw [law35_Events_l1,if_pos (lt_i h),if_pos (in_i h),at_i h,if_pos (lim33 (by simp only [List.length_cons,List.length_nil]; omega))])
  (fun s i h hi=>by simp [hi])
  (fun k s hi=>by rw [law35_Events_l1,nlt_n]; rfl) n 0 [] (by omega) (by omega) rfl
 have this:law35_Events_l1 n l n [] 0 = _:=this.1
 rw [this,List.drop_zero,foldl_app (fun x=>[x])]
 simp
theorem Tick_o_eq (n:Nat) (hn:n = 1000000000) {k:Nat} {h:PH} (hi:HInv k h) (hk:k ≤ 200) (x:Int) (hw:IntKind.wrap .i64 (h.now + clampP x) = h.now + clampP x) {ev:List S_host_Event} {p:PS} (ht:tickL n (h.now + clampP x) [] h.st = some (ev,p)) :
  host_Host_Tick_o__o0 n x h.toH = some (ev,(⟨p,h.plan,h.now + clampP x⟩:PH).toH):=by
 unfold host_Host_Tick_o__o0
 simp only [lett]
 show (host_Host_Tick_o__o0_l1 n (IntKind.wrap .i64 (h.now + clampP x)) n [] h.toH).bind _ = _
 rw [hw,tickL_o_eq n _ k (by omega) (by omega) n [] h hi (by simp only [List.length_nil]; omega),ht]
 show some (ev,S_host_Host.mk _ _ (IntKind.wrap .i64 (h.now + clampP x))) = _
 rw [hw]; rfl
theorem Events_o_eq (n:Nat) (l:List S_host_Event) (h:l.length ≤ 1000000000 - 1) (hn:n = 1000000000):law35_Events_o n l = some l:=by
 unfold law35_Events_o
 have:=gather (L:=law35_Events_o_l1 n l) l (fun acc x=>acc ++ [x]) id (fun i s=>s.length = i) (by omega)
  (fun k s i h hs=>by rw [law35_Events_o_l1,if_pos (lt_i h),if_pos (in_i h),at_i h,if_pos (lim33 (by simp only [List.length_cons,List.length_nil]; omega))])
  (fun s i h hi=>by simp [hi])
  (fun k s hi=>by rw [law35_Events_o_l1,nlt_n]; rfl) n 0 [] (by omega) (by omega) rfl
 have this:law35_Events_o_l1 n l n [] 0 = _:=this.1
 rw [this,List.drop_zero,foldl_app (fun x=>[x])]
 simp
theorem sameEv_refl (n:Nat) (l:List S_host_Event) (h:l.length ≤ 1000000000 - 1) (hn:n = 1000000000):ref35_Same n l l = some true:=by
 unfold ref35_Same
 rw [if_neg (by simp)]
 have:=scanL (L:=ref35_Same_l1 n l l) l (fun _=>none) 0 (by omega)
  (fun k i hi _=>by
   rw [ref35_Same_l1,if_pos (lt_i hi),if_pos (in_i hi),if_pos (in_i hi),at_i hi]
   simp [lett])
  (fun k=>by rw [ref35_Same_l1,nlt_n]; rfl) n 0 (by omega) (by omega) (by omega)
 have this:ref35_Same_l1 n l l n 0 = _:=this
 rw [this,List.drop_zero,findSome_no]; rfl
theorem TickR_eq (n:Nat) (hn:n = 1000000000) {k:Nat} {h:PH} (hi:HInv k h) (x:Int) (hw:IntKind.wrap .i64 (h.now + clampP x) = h.now + clampP x) {ev:List S_host_Event} {p:PS} (ht:tickL n (h.now + clampP x) [] h.st = some (ev,p)) :
  ref35_Tick n (toWH h) x = some (toWH ⟨p,h.plan,h.now + clampP x⟩,ev):=by
 unfold ref35_Tick
 have hc:=clampR n x (toWH h) ⟨⟨[],[],[],0⟩,⟨[],0⟩,0⟩
 cases hj:ref35_Tick_j1 n x (decide (x < 0)) (toWH h) ⟨⟨[],[],[],0⟩,⟨[],0⟩,0⟩ with
 | none=>rw [hj] at hc; cases hc
 | some o =>
  rw [hj,Option.bind_some] at hc
  rw [Option.bind_some,hc,Option.bind_some]
  show (ref35_Tick_l3 n (IntKind.wrap .i64 (h.now + clampP x)) n [] (toWH h) _).bind _ = _
  rw [hw,tickR_eq n _ k (by omega) _ n [] h hi (by simp only [List.length_nil]; omega),ht]; rfl
theorem HBox_eq (n:Nat) (id:Int) {k:Nat} {h:PH} (hi:HInv k h):host_Host_Box__o0 n id h.toH = some ((h.st.bs.find? (qI id)).getD Z_life_Box,(h.st.bs.find? (qI id)).isSome,h.toH):=by
 unfold host_Host_Box__o0
 show (store_Store_Box__o0 n id h.st.toS).bind _ = _
 rw [Box_eq n id hi.st]; rfl
theorem byId {p:PS} (id:Int):(p.bs.findIdx? (qI id) = none ∧ p.bs.find? (qI id) = none) ∨ ∃ (i:Nat) (hi:i < p.bs.length),p.bs.findIdx? (qI id) = some i ∧ p.bs.find? (qI id) = some p.bs[i] ∧ p.bs[i].f_Id = id:=by
 cases hi:p.bs.findIdx? (qI id) with
 | none=>exact .inl ⟨rfl,by rw [find_idx,hi]; rfl⟩
 | some i =>
  have hil:=idx_some hi
  refine .inr ⟨i,hil,rfl,by rw [find_idx,hi,Option.bind_some,List.getElem?_eq_getElem hil],?_⟩
  rw [List.findIdx?_eq_some_iff_getElem] at hi
  exact Sum.inr.inj (of_decide_eq_true hi.2.1)
theorem sick_eq (n:Nat) (id:Int) (x:Bool) {k:Nat} {h:PH} (hi:HInv k h) (hn:100000 ≤ n):∃ h' r,host_Host_Sick__o0 n id x h.toH = some (r,h'.toH) ∧ ref35_Sick n (toWH h) id x = some (toWH h',r) ∧ HInv k h' ∧ h'.plan = h.plan ∧ h'.now = h.now:=by
 have h64:=hi.st.boxes
 unfold host_Host_Sick__o0 ref35_Sick
 have e33:ref33_Find n (toWH h).f_S id = some (ofI (h.st.bs.findIdx? (qI id))):=find33_eq n h.st id (by omega) hn
 rw [HBox_eq n id hi,Option.bind_some,e33,Option.bind_some,ofI_neg]
 rcases byId (p:=h.st) id with ⟨e1,e2⟩ | ⟨i,hil,e1,e2,e3⟩
 ·rw [e1,e2]
  exact ⟨h,false,rfl,rfl,hi,rfl,rfl⟩
 ·have hb:h.st.bs[i] ∈ h.st.bs:=List.getElem_mem hil
  have hg:((toWH h).f_S.f_Boxes[Int.toNat (i:Int)]?.getD Z_ref32_Box) = toR h.st.bs[i]:=by rw [at_i (by simpa [toWH,toW] using hil)]; simp [toWH,toW]
  rw [e1,e2,if_neg (show ¬ (Option.isNone (some i)) = true by simp),show ofI (some i) = (i:Int) from rfl,if_pos (in_i (by simpa [toWH,toW] using hil)),hg]
  simp only [lett,Option.getD_some,Option.isSome_some,beq_self_eq_true,if_true]
  refine ⟨⟨h.st.setB (life_Sick h.st.bs[i] x),h.plan,h.now⟩,true,?_,?_,hi.setB hb rfl rfl,rfl,rfl⟩
  ·show (Option.bind (store_Store_Put__o0 n (life_Sick h.st.bs[i] x) h.st.toS) _) = _
   rw [Put_set n hi.st (b:=h.st.bs[i]) (v:=life_Sick h.st.bs[i] x) hb rfl rfl]; rfl
  ·show (Option.bind (ref33_Put n (toW h.st) (toR (life_Sick h.st.bs[i] x))) _) = _
   rw [put33S_eq n h.st _ i (by show h.st.bs.findIdx? (qI h.st.bs[i].f_Id) = some i; rw [e3]; exact e1) (by omega) hn]; rfl
theorem exit35_eq (n:Nat) (id c:Int) {k:Nat} {h:PH} (hi:HInv k h) (hn:100000 ≤ n):∃ h' ev,host_Host_Exit__o0 n id c h.toH = some (ev,h'.toH) ∧ ref35_Exit n (toWH h) id c = some (toWH h',ev) ∧ HInv k h' ∧ h'.plan = h.plan ∧ h'.now = h.now ∧ ev.length ≤ 1:=by
 have h64:=hi.st.boxes
 unfold host_Host_Exit__o0 ref35_Exit
 have e33:ref33_Find n (toWH h).f_S id = some (ofI (h.st.bs.findIdx? (qI id))):=find33_eq n h.st id (by omega) hn
 rw [HBox_eq n id hi,Option.bind_some,e33,Option.bind_some,ofI_neg]
 rcases byId (p:=h.st) id with ⟨e1,e2⟩ | ⟨i,hil,e1,e2,e3⟩
 ·rw [e1,e2]
  exact ⟨h,[],rfl,rfl,hi,rfl,rfl,by simp⟩
 ·have hb:h.st.bs[i] ∈ h.st.bs:=List.getElem_mem hil
  have hg:((toWH h).f_S.f_Boxes[Int.toNat (i:Int)]?.getD Z_ref32_Box) = toR h.st.bs[i]:=by rw [at_i (by simpa [toWH,toW] using hil)]; simp [toWH,toW]
  rw [e1,e2,if_neg (show ¬ (Option.isNone (some i)) = true by simp),show ofI (some i) = (i:Int) from rfl,if_pos (in_i (by simpa [toWH,toW] using hil)),hg]
  simp only [Option.getD_some,Option.isSome_some]
  obtain ⟨m,rfl⟩:∃ m,n = m + 11:=⟨n - 11,by omega⟩
  obtain ⟨r,x1,x2,x3⟩:=exit_eq m h.st.bs[i] h.now c
  have xid:=exit_id _ _ _ _ _ x1
  rw [show (PH.toH h).f_now = h.now from rfl,show (toWH h).f_Now = h.now from rfl,x1,x2,Option.bind_some,Option.bind_some,if_neg (by decide)]
  by_cases hr:r.2 = 0
  ·rw [hr,if_neg (by decide),if_neg (by decide)]
   refine ⟨⟨h.st.setB r.1,h.plan,h.now⟩,[⟨h.now,1,id,c⟩],?_,?_,hi.setB hb xid.1 xid.2,rfl,rfl,by simp⟩
   ·show (Option.bind (store_Store_Put__o0 (m + 11) r.1 h.st.toS) _) = _
    rw [Put_set _ hi.st hb xid.1 xid.2]; rfl
   ·show (Option.bind (ref33_Put (m + 11) (toW h.st) (toR r.1)) _) = _
    rw [put33S_eq _ h.st _ i (by rw [xid.1,e3]; exact e1) (by omega) hn]; rfl
  ·rw [if_pos (by simpa using hr),if_pos (by simpa using hr)]
   exact ⟨h,[],rfl,rfl,hi,rfl,rfl,by simp⟩
theorem QInv.up {k:Nat} {h h':PH} (hi:QInv k h) (hi':HInv k h') (hp:h'.plan = h.plan) (hn:h'.now = h.now):QInv (k + 1) h' where
 inv:=⟨hi'.st.up,hi'.plan⟩
 plan:=by rw [hp]; exact hi.plan.up (by omega)
 now0:=by rw [hn]; exact hi.now0
 nowk:=by rw [hn]; have:=hi.nowk; omega
end Go.Proofs.YtaecmkldkljioaaGreat.M
