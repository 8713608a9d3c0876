import Derived.Test.YtaecmkldkljioaaGreatQP35
set_option linter.all false
namespace Go.Proofs.YtaecmkldkljioaaGreat.M
open Go Go.Proofs.YtaecmkldkljioaaGreat.RX Go.Proofs.YtaecmkldkljioaaGreat.PL
set_option maxRecDepth 100000
abbrev Zg:S_fault_Gap:=S_fault_Gap.mk 0 0
def nextP (p:S_fault_Plan):S_fault_Plan × Bool :=
 match p.f_l with
 | []=>(⟨[],if (0:Int) > IntKind.wrap .i64 (p.f_more - 1) then 0 else IntKind.wrap .i64 (p.f_more - 1)⟩,false)
 | g :: l =>
  let g':S_fault_Gap:=if g.f_Skip > 0 then ⟨IntKind.wrap .i64 (g.f_Skip - 1),g.f_Fail⟩ else ⟨g.f_Skip,IntKind.wrap .i64 (g.f_Fail - 1)⟩
  (if g'.f_Fail = 0 then ⟨l,p.f_more⟩ else ⟨g' :: l,p.f_more⟩,decide (g'.f_Fail < g.f_Fail))
theorem nextP_len (p:S_fault_Plan):(nextP p).1.f_l.length ≤ p.f_l.length:=by
 unfold nextP
 cases h:p.f_l with
 | nil=>simp
 | cons g l =>
  dsimp only
  repeat' split
  all_goals simp
theorem Next_eq (n:Nat) (p:S_fault_Plan) (h:p.f_l.length ≤ 1000000):fault_Next n p = some (nextP p):=by
 obtain ⟨l,m⟩:=p
 unfold fault_Next nextP
 cases l with
 | nil=>rfl
 | cons g l =>
  dsimp only
  have hz:decide (0 ≤ (0:Int) ∧ (0:Int) < (List.length (g :: l):Int)) = true:=decide_eq_true (by rw [List.length_cons]; omega)
  rw [if_neg (by rw [List.length_cons]; simp; omega),if_pos hz]
  show (fault_Next_j1 n (decide (g.f_Skip > 0)) _ _ g).bind _ = _
  have ej:fault_Next_j1 n (decide (g.f_Skip > 0)) ⟨g :: l,m⟩ ⟨[],0⟩ g = some (if g.f_Skip > 0 then ⟨IntKind.wrap .i64 (g.f_Skip - 1),g.f_Fail⟩ else ⟨g.f_Skip,IntKind.wrap .i64 (g.f_Fail - 1)⟩):=by
   unfold fault_Next_j1
   by_cases h:g.f_Skip > 0
   ·rw [if_pos (decide_eq_true h),if_pos h]
   ·rw [if_neg (by simpa using h),if_neg h]
  rw [ej,Option.bind_some]
  generalize (if g.f_Skip > 0 then (⟨IntKind.wrap .i64 (g.f_Skip - 1),g.f_Fail⟩:S_fault_Gap) else ⟨g.f_Skip,IntKind.wrap .i64 (g.f_Fail - 1)⟩) = g'
  rw [if_pos hz]
  by_cases h0:g'.f_Fail = 0
  ·rw [if_pos (by simpa using h0),if_pos h0,if_pos (decide_eq_true (by rw [List.length_cons]; omega))]; rfl
  ·rw [if_neg (by simpa using h0),if_neg h0]
   unfold slices_Clone_fault_Gap_fault_Gap_o
   rw [if_pos (fitsM (by simp only [List.length_nil]; dsimp only at h; omega)),Option.bind_some,List.nil_append,if_pos hz]; rfl
def addP (p:S_fault_Plan) (g:S_fault_Gap):S_fault_Plan :=
 if 32 ≤ p.f_l.length then p else if fault_near g.f_Fail = 0 then ⟨p.f_l,IntKind.wrap .i64 (p.f_more + fault_near g.f_Skip)⟩ else ⟨p.f_l ++ [⟨IntKind.wrap .i64 (p.f_more + fault_near g.f_Skip),fault_near g.f_Fail⟩],0⟩
theorem addP_len {p:S_fault_Plan} (g:S_fault_Gap) (h:p.f_l.length ≤ 32):(addP p g).f_l.length ≤ 32:=by
 unfold addP
 split
 ·exact h
 split
 ·exact h
 ·simp; omega
theorem copy_all (l:List S_fault_Gap):copyTo (List.replicate l.length Zg) l = l:=by
 unfold copyTo; simp
theorem Add_eq (n:Nat) (p:S_fault_Plan) (g:S_fault_Gap) (h:p.f_l.length ≤ 32):fault_Add n p g = some (addP p g):=by
 unfold fault_Add fault_Add_j1 addP
 by_cases c1:32 ≤ p.f_l.length
 ·rw [if_pos (by simp; omega),if_pos c1]; rfl
 rw [if_neg (by simp; omega),if_neg c1]
 by_cases c2:fault_near g.f_Fail = 0
 ·rw [if_pos (by simpa using c2),if_pos c2]; rfl
 rw [if_neg (by simpa using c2),if_neg c2,wrap_s p.f_l.length (by omega),if_pos (decide_eq_true (by omega)),if_pos (decide_eq_true (by show _ ≤ (140737488355328:Int); omega)),Int.toNat_natCast,copy_all,if_pos (fitsM (by simp only [List.length_cons,List.length_nil]; omega))]
 rfl
theorem Of_eq (n:Nat) (l:List S_fault_Gap) (h:l.length ≤ 1000) (hn:100000 ≤ n):fault_Of n l = some (l.foldl addP ⟨[],0⟩) ∧ (l.foldl addP ⟨[],0⟩).f_l.length ≤ 32:=by
 unfold fault_Of
 have:=gather (L:=fun k s i=>fault_Of_l1 n l (List.length l:Int) ⟨[],0⟩ k i s) l addP id (fun _ s=>s.f_l.length ≤ 32) (by omega)
  (fun k s i h hi=>by
   show fault_Of_l1 n l (List.length l:Int) ⟨[],0⟩ (k + 1) (i:Int) s = _
   rw [fault_Of_l1,if_pos (lt_i h),if_pos (in_i h),at_i h,Add_eq n _ _ hi,Option.bind_some])
  (fun s i h hi=>addP_len _ hi)
  (fun k s hi=>by
   show fault_Of_l1 n l (List.length l:Int) ⟨[],0⟩ (k + 1) (List.length l:Int) s = _
   rw [fault_Of_l1,nlt_n]; rfl) n 0 ⟨[],0⟩ (by omega) (by omega) (by simp)
 rw [List.drop_zero] at this
 have e:fault_Of_l1 n l (List.length l:Int) ⟨[],0⟩ n 0 ⟨[],0⟩ = _:=this.1
 rw [e]
 exact ⟨rfl,this.2⟩
structure PH where
 st:PS
 plan:S_fault_Plan
 now:Int
def PH.toH (h:PH):S_host_Host:=⟨h.st.toS,h.plan,h.now⟩
structure HInv (k:Nat) (h:PH):Prop where
 st:Inv k h.st
 plan:h.plan.f_l.length ≤ 32
theorem New_eq (n:Nat) (l:List S_fault_Gap) (h:l.length ≤ 1000) (hn:100000 ≤ n):host_New_o n l = some (PH.toH ⟨⟨[],[],[],0⟩,l.foldl addP ⟨[],0⟩,0⟩) ∧ HInv 0 ⟨⟨[],[],[],0⟩,l.foldl addP ⟨[],0⟩,0⟩:=by
 refine ⟨?_,inv0,(Of_eq n l h hn).2⟩
 unfold host_New_o
 simp only [lett]
 rw [(Of_eq n l h hn).1]; rfl
def callP (c:S_api_Call) (h:PH):Int × Int × PH :=
 if (nextP h.plan).2 = true then (0,15,⟨h.st,(nextP h.plan).1,h.now⟩) else ((stepP c h.now h.st).1,(stepP c h.now h.st).2.1,⟨(stepP c h.now h.st).2.2,(nextP h.plan).1,h.now⟩)
theorem Call_eq (n:Nat) (c:S_api_Call) {k:Nat} {h:PH} (hi:HInv k h) (hk:k ≤ 1000) (h1:c.f_Spec.f_Nets.length ≤ 10) (h2:c.f_Spec.f_Vols.length ≤ 10) (hn:100000 ≤ n) :
  host_Host_Call__o0 n c h.toH = some ((callP c h).1,(callP c h).2.1,(callP c h).2.2.toH):=by
 unfold host_Host_Call__o0 callP
 show (fault_Next n h.plan).bind _ = _
 have hp:=hi.plan
 rw [Next_eq n _ (by omega),Option.bind_some]
 by_cases hf:(nextP h.plan).2 = true
 ·rw [if_pos hf,if_pos hf]; rfl
 ·rw [if_neg hf,if_neg hf]
  show (store_Store_Do__o0 n c h.now h.st.toS).bind _ = _
  rw [Do_eq n c h.now hi.st hk h1 h2 hn]; rfl
theorem HInv.call {k:Nat} {h:PH} (hi:HInv k h) (c:S_api_Call) (h1:c.f_Spec.f_Nets.length ≤ 10) (h2:c.f_Spec.f_Vols.length ≤ 10):HInv (k + 1) (callP c h).2.2:=by
 unfold callP
 have hp:=nextP_len h.plan
 have:=hi.plan
 split
 ·exact ⟨hi.st.up,by show (nextP h.plan).1.f_l.length ≤ 32; omega⟩
 ·exact ⟨hi.st.step c h.now h1 h2,by show (nextP h.plan).1.f_l.length ≤ 32; omega⟩
theorem HBoxes_eq (n:Nat) {k:Nat} {h:PH} (hi:HInv k h) (hk:k ≤ 1000) (hn:100000 ≤ n):host_Host_Boxes__o0 n h.toH = some (h.st.bs.map seenB,h.toH):=by
 unfold host_Host_Boxes__o0
 show (store_Store_Boxes__o0 n h.st.toS).bind _ = _
 rw [Boxes_eq n hi.st hk hn]; rfl
theorem HNets_eq (n:Nat) {k:Nat} {h:PH} (hi:HInv k h) (hn:100000 ≤ n):host_Host_Nets__o0 n h.toH = some (listP h.st.ns,h.toH):=by
 unfold host_Host_Nets__o0
 show (store_Store_Nets__o0 n h.st.toS).bind _ = _
 rw [Nets_eq n hi.st hn]; rfl
theorem HVols_eq (n:Nat) {k:Nat} {h:PH} (hi:HInv k h) (hn:100000 ≤ n):host_Host_Vols__o0 n h.toH = some (listP h.st.vs,h.toH):=by
 unfold host_Host_Vols__o0
 show (store_Store_Vols__o0 n h.st.toS).bind _ = _
 rw [Vols_eq n hi.st hn]; rfl
end Go.Proofs.YtaecmkldkljioaaGreat.M
