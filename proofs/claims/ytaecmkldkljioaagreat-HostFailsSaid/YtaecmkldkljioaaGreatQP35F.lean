import Derived.Test.YtaecmkldkljioaaGreatQP35
set_option linter.all false
namespace Go.Proofs.YtaecmkldkljioaaGreat.M
open Go Go.Proofs.YtaecmkldkljioaaGreat.RX Go.Proofs.YtaecmkldkljioaaGreat.PL
set_option maxRecDepth 100000
abbrev Zg:S_fault_Gap:=S_fault_Gap.mk 0 0
def nextP (p:S_fault_Plan):S_fault_Plan × Bool :=
 match p.f_l with
 | []=>(⟨[],if (0:Int) > IntKind.wrap .i64 (p.f_more - 1) then 0 else IntKind.wrap .i64 (p.f_more - 1)⟩,false)
 | g :: l =>
  let g':S_fault_Gap:=if g.f_Skip > 0 then ⟨IntKind.wrap .i64 (g.f_Skip - 1),g.f_Fail⟩ else ⟨g.f_Skip,IntKind.wrap .i64 (g.f_Fail - 1)⟩
  (if g'.f_Fail = 0 then ⟨l,p.f_more⟩ else ⟨g' :: l,p.f_more⟩,decide (g'.f_Fail < g.f_Fail))
theorem nextP_len (p:S_fault_Plan):(nextP p).1.f_l.length ≤ p.f_l.length:=by
 unfold nextP
 cases h:p.f_l with
 | nil=>simp
 | cons g l =>
  dsimp only
  repeat' split
  all_goals simp
theorem Next_eq (n:Nat) (p:S_fault_Plan) (h:p.f_l.length ≤ 1000000):fault_Next n p = some (nextP p):=by
 obtain ⟨l,m⟩:=p
 unfold fault_Next nextP
 cases l with
 | nil=>rfl
 | cons g l =>
  dsimp only
  have hz:decide (0 ≤ (0:Int) ∧ (0:Int) < (List.length (g :: l):Int)) = true:=decide_eq_true (by rw [List.length_cons]; omega)
  rw [if_neg (by rw [List.length_cons]; simp; omega),if_pos hz]
  show (fault_Next_j1 n (decide (g.f_Skip > 0)) _ _ g).bind _ = _
  have ej:fault_Next_j1 n (decide (g.f_Skip > 0)) ⟨g :: l,m⟩ ⟨[],0⟩ g = some (if g.f_Skip > 0 then ⟨IntKind.wrap .i64 (g.f_Skip - 1),g.f_Fail⟩ else ⟨g.f_Skip,IntKind.wrap .i64 (g.f_Fail - 1)⟩):=by
   unfold fault_Next_j1
   by_cases h:g.f_Skip > 0
   ·rw [if_pos (decide_eq_true h),if_pos h]
   ·rw [if_neg (by simpa using h),if_neg h]
  rw [ej,Option.bind_some]
  generalize (if g.f_Skip > 0 then (⟨IntKind.wrap .i64 (g.f_Skip - 1),g.f_Fail⟩:S_fault_Gap) else ⟨g.f_Skip,IntKind.wrap .i64 (g.f_Fail - 1)⟩) = g'
  rw [if_pos hz]
  by_cases h0:g'.f_Fail = 0
  ·rw [if_pos (by simpa using h0),if_pos h0,if_pos (decide_eq_true (by rw [List.length_cons]; omega))]; rfl
  ·rw [if_neg (by simpa using h0),if_neg h0]
   unfold slices_Clone_fault_Gap_fault_Gap_o
   rw [if_pos (fitsM (by simp only [List.length_nil]; dsimp only at h; omega)),Option.bind_some,List.nil_append,if_pos hz]; rfl
def addP (p:S_fault_Plan) (g:S_fault_Gap):S_fault_Plan :=
 if 32 ≤ p.f_l.length then p else if fault_near g.f_Fail = 0 then ⟨p.f_l,IntKind.wrap .i64 (p.f_more + fault_near g.f_Skip)⟩ else ⟨p.f_l ++ [⟨IntKind.wrap .i64 (p.f_more + fault_near g.f_Skip),fault_near g.f_Fail⟩],0⟩
theorem addP_len {p:S_fault_Plan} (g:S_fault_Gap) (h:p.f_l.length ≤ 32):(addP p g).f_l.length ≤ 32:=by
 unfold addP
 split
 ·exact h
 split
 ·exact h
 ·simp; omega
theorem copy_all (l:List S_fault_Gap):copyTo (List.replicate l.length Zg) l = l:=by
 unfold copyTo; simp
theorem Add_eq (n:Nat) (p:S_fault_Plan) (g:S_fault_Gap) (h:p.f_l.length ≤ 32):fault_Add n p g = some (addP p g):=by
 unfold fault_Add fault_Add_j1 addP
 by_cases c1:32 ≤ p.f_l.length
 ·rw [if_pos (by simp; omega),if_pos c1]; rfl
 rw [if_neg (by simp; omega),if_neg c1]
 by_cases c2:fault_near g.f_Fail = 0
 ·rw [if_pos (by simpa using c2),if_pos c2]; rfl
 rw [if_neg (by simpa using c2),if_neg c2,wrap_s p.f_l.length (by omega),if_pos (decide_eq_true (by omega)),if_pos (decide_eq_true (by show _ ≤ (140737488355328:Int); omega)),Int.toNat_natCast,copy_all,if_pos (fitsM (by simp only [List.length_cons,List.length_nil]; omega))]
 rfl
theorem Of_eq (n:Nat) (l:List S_fault_Gap) (h:l.length ≤ 1000) (hn:100000 ≤ n):fault_Of n l = some (l.foldl addP ⟨[],0⟩) ∧ (l.foldl addP ⟨[],0⟩).f_l.length ≤ 32:=by
 unfold fault_Of
 have:=gather (L:=fun k s i=>fault_Of_l1 n l (List.length l:Int) ⟨[],0⟩ k i s) l addP id (fun _ s=>s.f_l.length ≤ 32) (by omega)
  (fun k s i h hi=>by
   show fault_Of_l1 n l (List.length l:Int) ⟨[],0⟩ (k + 1) (i:Int) s = _
   rw [fault_Of_l1,if_pos (lt_i h),if_pos (in_i h),at_i h,Add_eq n _ _ hi,Option.bind_some])
  (fun s i h hi=>addP_len _ hi)
  (fun k s hi=>by
   show fault_Of_l1 n l (List.length l:Int) ⟨[],0⟩ (k + 1) (List.length l:Int) s = _
   rw [fault_Of_l1,nlt_n]; rfl) n 0 ⟨[],0⟩ (by omega) (by omega) (by simp)
 rw [List.drop_zero] at this
 have e:fault_Of_l1 n l (List.length l:Int) ⟨[],0⟩ n 0 ⟨[],0⟩ = _:=this.1
 rw [e]
 exact ⟨rfl,this.2⟩
theorem gaps_eq (n:Nat) (l:List S_fault_Gap) (h:l.length ≤ 1000) (hn:100000 ≤ n):law35_gaps n l = some l:=by
 unfold law35_gaps
 have:=gather (L:=law35_gaps_l1 n l) l (fun acc x=>acc ++ [x]) id (fun i s=>s.length = i) (by omega)
  (fun k s i h hs=>by rw [law35_gaps_l1,if_pos (lt_i h),if_pos (in_i h),at_i h,if_pos (cap_add (by simp only [List.length_cons,List.length_nil]; omega))])
  (fun s i h hi=>by simp [hi])
  (fun k s hi=>by rw [law35_gaps_l1,nlt_n]; rfl) n 0 [] (by omega) (by omega) rfl
 have this:law35_gaps_l1 n l n [] 0 = _:=this.1
 rw [this,List.drop_zero,foldl_app (fun x=>[x])]
 simp
theorem small_eq (n:Nat) (l:List S_fault_Gap) (hn:100000 ≤ n):∃ b,law34_Small n l = some b ∧ (b = true → l.length ≤ 40 ∧ ∀ g ∈ l,g.f_Skip ≤ 30 ∧ g.f_Fail ≤ 30):=by
 unfold law34_Small
 by_cases h:(l.length:Int) > 40
 ·exact ⟨false,by rw [if_pos (decide_eq_true h)],fun h=>by cases h⟩
 ·rw [if_neg (by simpa using h)]
  have:=anyScan (L:=law34_Small_l1 n l) l (fun g=>bif decide (g.f_Skip > 30) then true else decide (g.f_Fail > 30)) () false (by omega)
   (fun k i h=>by
    rw [law34_Small_l1,if_pos (lt_i h),if_pos (in_i h),at_i h,if_pos (by rw [in_i h]; simp)]
    rfl)
   (fun k=>by rw [law34_Small_l1,nlt_n]; rfl) n 0 (by omega) (by omega)
  have this:law34_Small_l1 n l n 0 = _:=this
  rw [this,List.drop_zero]
  by_cases hq:(l.any fun g=>bif decide (g.f_Skip > 30) then true else decide (g.f_Fail > 30)) = true
  ·rw [if_pos hq]; exact ⟨false,rfl,fun h=>by cases h⟩
  ·rw [if_neg hq]
   refine ⟨true,rfl,fun _=>⟨by omega,fun g hg=>?_⟩⟩
   rw [Bool.not_eq_true,List.any_eq_false] at hq
   have:=hq g hg
   simp only [Bool.cond_true_left,Bool.or_eq_true,decide_eq_true_eq,not_or] at this
   omega
structure PH where
 st:PS
 plan:S_fault_Plan
 now:Int
def PH.toH (h:PH):S_host_Host:=⟨h.st.toS,h.plan,h.now⟩
structure HInv (k:Nat) (h:PH):Prop where
 st:Inv k h.st
 plan:h.plan.f_l.length ≤ 32
theorem New_eq (n:Nat) (l:List S_fault_Gap) (h:l.length ≤ 1000) (hn:100000 ≤ n):host_New_o n l = some (PH.toH ⟨⟨[],[],[],0⟩,l.foldl addP ⟨[],0⟩,0⟩) ∧ HInv 0 ⟨⟨[],[],[],0⟩,l.foldl addP ⟨[],0⟩,0⟩:=by
 refine ⟨?_,inv0,(Of_eq n l h hn).2⟩
 unfold host_New_o
 simp only [lett]
 rw [(Of_eq n l h hn).1]; rfl
def callP (c:S_api_Call) (h:PH):Int × Int × PH :=
 if (nextP h.plan).2 = true then (0,15,⟨h.st,(nextP h.plan).1,h.now⟩) else ((stepP c h.now h.st).1,(stepP c h.now h.st).2.1,⟨(stepP c h.now h.st).2.2,(nextP h.plan).1,h.now⟩)
theorem Call_eq (n:Nat) (c:S_api_Call) {k:Nat} {h:PH} (hi:HInv k h) (hk:k ≤ 1000) (h1:c.f_Spec.f_Nets.length ≤ 10) (h2:c.f_Spec.f_Vols.length ≤ 10) (hn:100000 ≤ n) :
  host_Host_Call__o0 n c h.toH = some ((callP c h).1,(callP c h).2.1,(callP c h).2.2.toH):=by
 unfold host_Host_Call__o0 callP
 show (fault_Next n h.plan).bind _ = _
 have hp:=hi.plan
 rw [Next_eq n _ (by omega),Option.bind_some]
 by_cases hf:(nextP h.plan).2 = true
 ·rw [if_pos hf,if_pos hf]; rfl
 ·rw [if_neg hf,if_neg hf]
  show (store_Store_Do__o0 n c h.now h.st.toS).bind _ = _
  rw [Do_eq n c h.now hi.st hk h1 h2 hn]; rfl
theorem HInv.call {k:Nat} {h:PH} (hi:HInv k h) (c:S_api_Call) (h1:c.f_Spec.f_Nets.length ≤ 10) (h2:c.f_Spec.f_Vols.length ≤ 10):HInv (k + 1) (callP c h).2.2:=by
 unfold callP
 have hp:=nextP_len h.plan
 have:=hi.plan
 split
 ·exact ⟨hi.st.up,by show (nextP h.plan).1.f_l.length ≤ 32; omega⟩
 ·exact ⟨hi.st.step c h.now h1 h2,by show (nextP h.plan).1.f_l.length ≤ 32; omega⟩
theorem HBoxes_eq (n:Nat) {k:Nat} {h:PH} (hi:HInv k h) (hk:k ≤ 1000) (hn:100000 ≤ n):host_Host_Boxes__o0 n h.toH = some (h.st.bs.map seenB,h.toH):=by
 unfold host_Host_Boxes__o0
 show (store_Store_Boxes__o0 n h.st.toS).bind _ = _
 rw [Boxes_eq n hi.st hk hn]; rfl
theorem HNets_eq (n:Nat) {k:Nat} {h:PH} (hi:HInv k h) (hn:100000 ≤ n):host_Host_Nets__o0 n h.toH = some (listP h.st.ns,h.toH):=by
 unfold host_Host_Nets__o0
 show (store_Store_Nets__o0 n h.st.toS).bind _ = _
 rw [Nets_eq n hi.st hn]; rfl
theorem HVols_eq (n:Nat) {k:Nat} {h:PH} (hi:HInv k h) (hn:100000 ≤ n):host_Host_Vols__o0 n h.toH = some (listP h.st.vs,h.toH):=by
 unfold host_Host_Vols__o0
 show (store_Store_Vols__o0 n h.st.toS).bind _ = _
 rw [Vols_eq n hi.st hn]; rfl
theorem awake35:law35_awake 600000 = some true:=by kernel_rfl
def rowsFrom:Nat → S_fault_Plan → List Bool
 | 0,_=>[]
 | m + 1,p=>(nextP p).2 :: rowsFrom m (nextP p).1
theorem rowsFrom_len:∀ m p,(rowsFrom m p).length = m
 | 0,_=>rfl
 | m + 1,p=>by rw [rowsFrom,List.length_cons,rowsFrom_len m]
theorem Row_l1 (n:Nat) (M:Nat) (hM:M ≤ 1000):∀ (k m:Nat) (acc:List Bool) (p:S_fault_Plan),m ≤ M → m < k → acc.length = M - m → p.f_l.length ≤ 1000000 → fault_Row_l1 n (M:Int) k acc ((M - m:Nat):Int) p = some (acc ++ rowsFrom m p)
 | 0,_,_,_,_,h,_,_=>by omega
 | k + 1,0,acc,p,h1,h2,h3,h4=>by
  rw [fault_Row_l1,Nat.sub_zero,nlt_n,rowsFrom,List.append_nil]; rfl
 | k + 1,m + 1,acc,p,h1,h2,h3,h4=>by
  have:=nextP_len p
  rw [fault_Row_l1,if_pos (decide_eq_true (by omega)),Next_eq n p h4,Option.bind_some,if_pos (fitsM (by simp only [List.length_cons,List.length_nil]; omega)),wrap_s _ (by omega),show M - (m + 1) + 1 = M - m by omega,
   Row_l1 n M hM k m _ _ (by omega) (by omega) (by simp; omega) (by omega),rowsFrom]
  simp
theorem Row_eq (n:Nat) (p:S_fault_Plan) (h:p.f_l.length ≤ 1000000) (hn:100000 ≤ n):fault_Row n p 60 = some (rowsFrom 60 p):=by
 unfold fault_Row
 have:=Row_l1 n 60 (by omega) n 60 [] p (by omega) (by omega) rfl h
 have this:fault_Row_l1 n (if (5000:Int) < 60 then 5000 else 60) n [] 0 p = _:=this
 rw [this]; rfl
theorem n15:(0:Int) ≠ 15 ∧ (2:Int) ≠ 15 ∧ (11:Int) ≠ 15 ∧ (12:Int) ≠ 15 ∧ (13:Int) ≠ 15 ∧ (14:Int) ≠ 15 ∧ (17:Int) ≠ 15:=by decide
theorem start15 (b:S_life_Box) (now:Int):(life_Start b now).2 ≠ 15:=by
 unfold life_Start lett
 split <;> (first | exact n15.1 | exact n15.2.1 | exact n15.2.2.1 | exact n15.2.2.2.1 | exact n15.2.2.2.2.1 | exact n15.2.2.2.2.2.1 | exact n15.2.2.2.2.2.2)
theorem stop15 (b:S_life_Box):(life_Stop b).2 ≠ 15:=by
 unfold life_Stop life_Stop_j1 lett
 split
 ·first | exact n15.1 | exact n15.2.1 | exact n15.2.2.1 | exact n15.2.2.2.1 | exact n15.2.2.2.2.1 | exact n15.2.2.2.2.2.1 | exact n15.2.2.2.2.2.2
 ·split <;> (first | exact n15.1 | exact n15.2.1 | exact n15.2.2.1 | exact n15.2.2.2.1 | exact n15.2.2.2.2.1 | exact n15.2.2.2.2.2.1 | exact n15.2.2.2.2.2.2)
theorem set15 (id:Int) (p:PS) (r:S_life_Box × Int) (h:r.2 ≠ 15):(setP id p r).2.1 ≠ 15:=by
 unfold setP
 split
 ·exact h
 ·first | exact n15.1 | exact n15.2.1 | exact n15.2.2.1 | exact n15.2.2.2.1 | exact n15.2.2.2.2.1 | exact n15.2.2.2.2.2.1 | exact n15.2.2.2.2.2.2
theorem put15 (c:S_api_Call) (l:List S_api_Kept):(putP c l).1 ≠ 15:=by
 unfold putP
 repeat' split
 all_goals (first | exact n15.1 | exact n15.2.1 | exact n15.2.2.1 | exact n15.2.2.2.1 | exact n15.2.2.2.2.1 | exact n15.2.2.2.2.2.1 | exact n15.2.2.2.2.2.2)
theorem drop15 (named:S_api_Spec → List BS) (bs:List S_life_Box) (s:BS) (l:List S_api_Kept):(dropP named bs s l).1 ≠ 15:=by
 unfold dropP
 repeat' split
 all_goals (first | exact n15.1 | exact n15.2.1 | exact n15.2.2.1 | exact n15.2.2.2.1 | exact n15.2.2.2.2.1 | exact n15.2.2.2.2.2.1 | exact n15.2.2.2.2.2.2)
theorem code15 (c:S_api_Call) (now:Int) (p:PS):(stepP c now p).2.1 ≠ 15:=by
 unfold stepP
 split
 ·exact put15 c _
 split
 ·exact put15 c _
 split
 ·exact drop15 _ _ _ _
 split
 ·exact drop15 _ _ _ _
 split
 ·unfold makeP
  repeat' split
  all_goals (first | exact n15.1 | exact n15.2.1 | exact n15.2.2.1 | exact n15.2.2.2.1 | exact n15.2.2.2.2.1 | exact n15.2.2.2.2.2.1 | exact n15.2.2.2.2.2.2)
 split
 ·unfold changeP
  split
  ·first | exact n15.1 | exact n15.2.1 | exact n15.2.2.1 | exact n15.2.2.2.1 | exact n15.2.2.2.2.1 | exact n15.2.2.2.2.2.1 | exact n15.2.2.2.2.2.2
  split
  ·exact set15 _ _ _ (start15 _ _)
  split
  ·exact set15 _ _ _ (stop15 _)
  split
  ·first | exact n15.1 | exact n15.2.1 | exact n15.2.2.1 | exact n15.2.2.2.1 | exact n15.2.2.2.2.1 | exact n15.2.2.2.2.2.1 | exact n15.2.2.2.2.2.2
  ·first | exact n15.1 | exact n15.2.1 | exact n15.2.2.1 | exact n15.2.2.2.1 | exact n15.2.2.2.2.1 | exact n15.2.2.2.2.2.1 | exact n15.2.2.2.2.2.2
 ·first | exact n15.1 | exact n15.2.1 | exact n15.2.2.1 | exact n15.2.2.2.1 | exact n15.2.2.2.2.1 | exact n15.2.2.2.2.2.1 | exact n15.2.2.2.2.2.2
theorem loopF35 (n:Nat) (v1:List S_api_Call) (v6:List Bool) (hl:v1.length ≤ 60) (hr:v6.length = 60) (hf:v1.any fewC = false) (hn:100000 ≤ n):∀ (k i:Nat) (h:PH),HInv i h → i ≤ v1.length → v1.length - i < k → v6.drop i = rowsFrom (60 - i) h.plan → law35_HostFails_l1 n v1 v6 k (i:Int) h.toH = some (.inl ())
 | 0,_,_,_,_,h,_=>by omega
 | k + 1,i,h,hp,h1,h2,hv=>by
  rw [law35_HostFails_l1]
  by_cases hi:i < v1.length
  ·have hc:fewC v1[i] = false:=by
    rw [List.any_eq_false] at hf
    simpa using hf _ (List.getElem_mem hi)
   obtain ⟨f1,f2⟩:=fewC_few hc
   have hp':=hp.call v1[i] f1 f2
   have hi6:i < v6.length:=by omega
   rw [drop_at hi6,show 60 - i = (59 - i) + 1 by omega,rowsFrom,List.cons.injEq] at hv
   rw [if_pos (lt_i hi),HBoxes_eq n hp (by omega) hn,Option.bind_some]
   dsimp only
   rw [HNets_eq n hp hn,Option.bind_some]
   dsimp only
   rw [HVols_eq n hp hn,Option.bind_some]
   dsimp only
   rw [if_pos (in_i hi),at_i hi,Call_eq n _ hp (by omega) f1 f2 hn,Option.bind_some,if_pos (in_i hi6),if_pos (by rw [in_i hi6]; simp),at_i hi6]
   have hb:=hp'.st.boxes
   have hns:=hp'.st.nets
   have hvs:=hp'.st.vols
   have hl1:=listP_len (callP v1[i] h).2.2.st.ns
   have hl2:=listP_len (callP v1[i] h).2.2.st.vs
   have next:law35_HostFails_l1 n v1 v6 k (IntKind.wrap .i64 ((i:Int) + 1)) (callP v1[i] h).2.2.toH = some (.inl ()):=by
    rw [wrap_s i (by omega)]
    refine loopF35 n v1 v6 hl hr hf hn k (i + 1) _ hp' (by omega) (by omega) ?_
    rw [hv.2,show 60 - (i + 1) = 59 - i by omega]
    unfold callP; split <;> rfl
   by_cases hff:(nextP h.plan).2 = true
   ·have e1:(callP v1[i] h).1 = 0:=by unfold callP; rw [if_pos hff]
    have e2:(callP v1[i] h).2.1 = 15:=by unfold callP; rw [if_pos hff]
    have e3:(callP v1[i] h).2.2.st = h.st:=by unfold callP; rw [if_pos hff]
    rw [e3] at hb hns hvs hl1 hl2
    rw [hv.1,hff,e1,e2]
    simp only [bne_self_eq_false,beq_self_eq_true,Bool.not_true,Bool.and_self,if_true]
    rw [HBoxes_eq n hp' (by omega) hn,Option.bind_some,e3]
    dsimp only
    rw [sameBoxes_refl n _ (by simp; omega) (seenB_few hp.st) hn,Option.bind_some]
    simp only [bne_self_eq_false,beq_self_eq_true,Bool.not_true,Bool.and_self,if_true,cond_false,cond_true]
    rw [HNets_eq n hp' hn,Option.bind_some,e3]
    dsimp only
    rw [sameKept_refl n _ (by omega) hn,Option.bind_some]
    simp only [bne_self_eq_false,beq_self_eq_true,Bool.not_true,Bool.and_self,if_true,cond_false,cond_true]
    rw [HVols_eq n hp' hn,Option.bind_some,e3]
    dsimp only
    rw [sameKept_refl n _ (by omega) hn,Option.bind_some]
    simp only [lett,Bool.not_true,Bool.false_eq_true,if_false]
    exact next
   ·have e2:((callP v1[i] h).2.1 == 15) = false:=by
     unfold callP; rw [if_neg hff]
     exact beq_eq_false_iff_ne.2 (code15 _ _ _)
    rw [hv.1,show (nextP h.plan).2 = false from by simpa using hff,e2]
    simp only [beq_self_eq_true,Bool.not_true,Bool.false_beq,Bool.false_and,Bool.and_false,Bool.false_eq_true,if_false,Option.bind_some,lett,cond_false]
    exact next
  ·have:i = v1.length:=by omega
   subst this
   rw [nlt_n]; rfl
theorem law35_HostFails_true (a0:List (S_fault_Gap)) (_:W_Lref34_Gap a0) (a1:List (S_api_Call)) (_:W_Lapi_Call a1):∃ n,law35_HostFails n a0 a1 = some true:=by
 obtain ⟨n,hn⟩:∃ n,n = 600000:=⟨_,rfl⟩
 refine ⟨n,?_⟩
 have haw:law35_awake n = some true:=by rw [hn]; exact awake35
 unfold law35_HostFails
 obtain ⟨b,hb,hs⟩:=small_eq n a0 (by omega)
 rw [hb,Option.bind_some,haw]
 cases b with
 | false=>rfl
 | true =>
  have hs:=(hs rfl).1
  rw [if_pos (by rfl),show (60:Int) = ((60:Nat):Int) from rfl,few33 n a1 60 (by omega) (by omega),Option.bind_some]
  cases hb:(decide (a1.length ≤ 60) && !a1.any fewC) with
  | false=>rfl
  | true =>
   rw [Bool.and_eq_true,decide_eq_true_eq,Bool.not_eq_true'] at hb
   have hO:=Of_eq n a0 (by omega) (by omega)
   have hN:=New_eq n a0 (by omega) (by omega)
   rw [if_neg (by decide),gaps_eq n a0 (by omega) (by omega),Option.bind_some,hN.1,Option.bind_some,Option.bind_some,hO.1,Option.bind_some]
   have hR:=Row_eq n (a0.foldl addP ⟨[],0⟩) (by have:=hO.2; omega) (by omega)
   have hR:fault_Row n (a0.foldl addP ⟨[],0⟩) ((60:Nat):Int) = _:=hR
   rw [hR,Option.bind_some,rowsFrom_len,if_neg (by decide)]
   have:=loopF35 n a1 _ hb.1 (rowsFrom_len 60 _) hb.2 (by omega) n 0 _ hN.2 (by omega) (by omega) rfl
   have this:law35_HostFails_l1 n a1 (rowsFrom 60 (a0.foldl addP ⟨[],0⟩)) n 0 _ = _:=this
   rw [this]; rfl
end Go.Proofs.YtaecmkldkljioaaGreat.M
