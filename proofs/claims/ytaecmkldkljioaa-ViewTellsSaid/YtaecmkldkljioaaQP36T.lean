import Derived.Test.YtaecmkldkljioaaQP36V
set_option linter.all false
namespace Go.Proofs.Ytaecmkldkljioaa.M
open Go Go.Proofs.Ytaecmkldkljioaa.RX Go.Proofs.Ytaecmkldkljioaa.PL
set_option maxRecDepth 100000
theorem awake36:law36_awake 600000 = some true:=by kernel_rfl
def cntP (v:Int) (l:LC):Nat:=(l.filter fun b=>b.f_State == v).length
def atP (v:Int) (l:LC) (x:Int):Int:=match l.findIdx? fun b=>b.f_Id == v with | some j=>(j:Int) | none=>x
theorem tells_l1 (n:Nat) (v:Int) (seen:S_ref36_Seen) (hl:seen.f_Boxes.length ≤ 900):∀ (k m c:Nat) (x:Int),m ≤ seen.f_Boxes.length → m < k → c + m ≤ 2000 →
  law36_ViewTells_l1 n v seen k (c:Int) x ((m:Int) - 1) = some (((c + cntP v (seen.f_Boxes.take m):Nat):Int),atP v (seen.f_Boxes.take m) x)
 | 0,_,_,_,_,h,_=>by omega
 | k + 1,0,c,x,_,_,_=>by
  rw [law36_ViewTells_l1,if_neg (by simp)]; simp [cntP,atP]
 | k + 1,m + 1,c,x,h1,h2,h3=>by
  have hm:m < seen.f_Boxes.length:=by omega
  rw [law36_ViewTells_l1,show ((m + 1:Nat):Int) - 1 = (m:Int) by omega,if_pos (decide_eq_true (by omega))]
  unfold law36_ViewTells_j2 law36_ViewTells_j3
  rw [if_pos (in_i hm),at_i hm]
  have ec:cntP v (seen.f_Boxes.take (m + 1)) = cntP v (seen.f_Boxes.take m) + (if (seen.f_Boxes[m].f_State == v) = true then 1 else 0):=by
   unfold cntP
   rw [List.take_succ_eq_append_getElem hm,List.filter_append,List.length_append,List.filter_cons]
   split <;> simp
  have ea:∀ x,atP v (seen.f_Boxes.take (m + 1)) x = atP v (seen.f_Boxes.take m) (if (seen.f_Boxes[m].f_Id == v) = true then (m:Int) else x):=by
   intro x
   have hlen:(seen.f_Boxes.take m).length = m:=by simp; omega
   unfold atP
   rw [List.take_succ_eq_append_getElem hm,List.findIdx?_append,hlen,List.findIdx?_cons]
   cases (seen.f_Boxes.take m).findIdx? fun b=>b.f_Id == v with
   | some j=>rfl
   | none =>
    by_cases hq:(seen.f_Boxes[m].f_Id == v) = true
    ·rw [if_pos hq,if_pos hq]; simp
    ·rw [if_neg hq,if_neg hq]; simp
  have hw:IntKind.wrap .i64 ((m:Int) - 1) = (m:Int) - 1:=by
   cases m with
   | zero=>decide
   | succ m=>rw [show ((m + 1:Nat):Int) - 1 = (m:Int) by omega]; exact wrap_idn _ (by omega)
  rw [ea,ec]
  by_cases hs:(seen.f_Boxes[m].f_State == v) = true
  ·rw [if_pos hs,if_pos hs,Option.bind_some,if_pos (in_i hm)]
   by_cases hq:(seen.f_Boxes[m].f_Id == v) = true
   ·rw [if_pos hq,if_pos hq,Option.bind_some]
    dsimp only
    rw [wrap_s c (by omega),hw,tells_l1 n v seen hl k m (c + 1) _ (by omega) (by omega) (by omega)]
    congr 2; omega
   ·rw [if_neg hq,if_neg hq,Option.bind_some]
    dsimp only
    rw [wrap_s c (by omega),hw,tells_l1 n v seen hl k m (c + 1) _ (by omega) (by omega) (by omega)]
    congr 2; omega
  ·rw [if_neg hs,if_neg hs,Option.bind_some,if_pos (in_i hm)]
   by_cases hq:(seen.f_Boxes[m].f_Id == v) = true
   ·rw [if_pos hq,if_pos hq,Option.bind_some]
    dsimp only
    rw [hw,tells_l1 n v seen hl k m c _ (by omega) (by omega) (by omega)]; simp
   ·rw [if_neg hq,if_neg hq,Option.bind_some]
    dsimp only
    rw [hw,tells_l1 n v seen hl k m c _ (by omega) (by omega) (by omega)]; simp
theorem same_sub (n:Nat) {boxes l:LC} (hf:∀ b ∈ boxes,b.f_Spec.f_Nets.length ≤ 1000 ∧ b.f_Spec.f_Vols.length ≤ 1000) (hs:∀ b ∈ l,b ∈ boxes) (hl:l.length ≤ 1000) (hn:100000 ≤ n):law33_SameBoxes n l l = some true :=
 sameBoxes_refl n l hl (fun c hc=>hf c (hs c hc)) hn
theorem law36_ViewTells_true (a0:S_ref36_Seen) (_:W_ref36_Seen a0) (a1:S_api_Project) (_:W_api_Project a1) (a2:List UInt8) (_:List.length a2 ≤ maxLen) (a3:List UInt8) (_:List.length a3 ≤ maxLen) (a4:Int) (_:IntKind.min .i64 ≤ a4 ∧ a4 ≤ IntKind.max .i64):∃ n,law36_ViewTells n a0 a1 a2 a3 a4 = some true:=by
 obtain ⟨n,hn⟩:∃ n,n = 600000:=⟨_,rfl⟩
 refine ⟨n,?_⟩
 have haw:law36_awake n = some true:=by rw [hn]; exact awake36
 unfold law36_ViewTells
 obtain ⟨b,hb,hF⟩:=few36_eq n a0 (by omega)
 rw [hb,Option.bind_some,haw]
 cases b with
 | false=>rfl
 | true =>
  obtain ⟨f1,f2,f3,f4,f5⟩:=hF rfl
  by_cases hs:(List.length a1.f_Services:Int) > 20
  ·rw [if_pos (by simp; omega)]; rfl
  rw [if_neg (by simp; omega)]
  have lm:=mineS_len a0.f_Boxes a2
  have lm2:=mineS_len a0.f_Boxes a1.f_Name
  have lo:(orphP a1 (mineS a0.f_Boxes a1.f_Name)).length ≤ (mineS a0.f_Boxes a1.f_Name).length:=List.length_filter_le _ _
  have lsv:(servP a3 (mineS a0.f_Boxes a2)).length ≤ (mineS a0.f_Boxes a2).length:=List.length_filter_le _ _
  have nn:∀ l:List S_api_Kept,(namesP l a2).length ≤ l.length:=fun l=>by unfold namesP; rw [List.length_map]; exact List.length_filter_le _ _
  have n1:=nn a0.f_Nets
  have n2:=nn a0.f_Vols
  rw [vMine_eq n a0 a2 (by omega) f5 (by omega),Option.bind_some,rMine_eq n a0 a2 (by omega) (by omega),Option.bind_some,same_sub n f4 (fun b hb=>mineS_sub hb) (by omega) (by omega),Option.bind_some]
  simp only [Bool.not_true,beq_self_eq_true,if_true,cond_false]
  rw [vService_eq n a0 a2 a3 (by omega) f5 (by omega),Option.bind_some,rService_eq n a0 a2 a3 (by omega) (by omega),Option.bind_some,same_sub n (l:=servP a3 (mineS a0.f_Boxes a2)) f4 (fun b hb=>mineS_sub (List.mem_filter.1 hb).1) (by omega) (by omega),Option.bind_some]
  simp only [Bool.not_true,beq_self_eq_true,if_true,cond_false]
  rw [vOrphans_eq n a0 a1 (by omega) (by omega) f5 (by omega),Option.bind_some,rOrphans_eq n a0 a1 (by omega) (by omega) (by omega),Option.bind_some,same_sub n (l:=orphP a1 (mineS a0.f_Boxes a1.f_Name)) f4 (fun b hb=>mineS_sub (List.mem_filter.1 hb).1) (by omega) (by omega),Option.bind_some]
  simp only [Bool.not_true,beq_self_eq_true,if_true,cond_false,Bool.false_eq_true,if_false]
  unfold view_Nets view_Vols view_Net view_Vol
  rw [vNames_eq n _ a2 (by omega) (by omega),Option.bind_some,Option.bind_some,rNames_eq n _ a2 (by omega) (by omega),Option.bind_some,ref02_Same_eq n _ _ (by omega) (by omega),Option.bind_some]
  simp only [decide_true,Bool.not_true,beq_self_eq_true,if_true,cond_false]
  rw [vNames_eq n _ a2 (by omega) (by omega),Option.bind_some,Option.bind_some,rNames_eq n _ a2 (by omega) (by omega),Option.bind_some,ref02_Same_eq n _ _ (by omega) (by omega),Option.bind_some]
  simp only [decide_true,Bool.not_true,beq_self_eq_true,if_true,cond_false]
  rw [vNamed_eq n _ a3 (by omega) (by omega),Option.bind_some,Option.bind_some,rNamed_eq n _ a3 (by omega) (by omega),Option.bind_some]
  simp only [Bool.not_true,beq_self_eq_true,if_true,cond_false]
  rw [vNamed_eq n _ a3 (by omega) (by omega),Option.bind_some,Option.bind_some,rNamed_eq n _ a3 (by omega) (by omega),Option.bind_some]
  simp only [Bool.not_true,beq_self_eq_true,if_true,cond_false]
  rw [vBusy_eq n a0 a3 (by omega) (fun b hb=>(f4 b hb).1) (by omega),Option.bind_some,rBusy_eq n a0 a3 (by omega) (fun b hb=>(f4 b hb).1) (by omega),Option.bind_some]
  simp only [Bool.not_true,beq_self_eq_true,if_true,cond_false,lett,Bool.false_eq_true,if_false]
  have hw:IntKind.wrap .i64 ((List.length a0.f_Boxes:Int) - 1) = (List.length a0.f_Boxes:Int) - 1:=by
   cases hl:a0.f_Boxes.length with
   | zero=>decide
   | succ m=>rw [show ((m + 1:Nat):Int) - 1 = (m:Int) by omega]; exact wrap_idn _ (by omega)
  have hT:=tells_l1 n a4 a0 (by omega) n a0.f_Boxes.length 0 (-1) (Nat.le_refl _) (by omega) (by omega)
  have hT:law36_ViewTells_l1 n a4 a0 n 0 (-1) ((List.length a0.f_Boxes:Int) - 1) = _:=hT
  rw [hw,hT,Option.bind_some,vFind_eq n _ a4 (by omega) (by omega),Option.bind_some,vCount_eq n _ a4 (by omega) (by omega),Option.bind_some,List.take_length,find_idx]
  have hc0:((a0.f_Boxes.filter fun b=>b.f_State == a4).length:Int) = ((0 + cntP a4 a0.f_Boxes:Nat):Int):=by unfold cntP; omega
  dsimp only
  rw [hc0]
  unfold atP
  cases hi:a0.f_Boxes.findIdx? fun b=>b.f_Id == a4 with
  | none =>
   simp
  | some j =>
   have hj:=idx_some hi
   rw [Option.bind_some,List.getElem?_eq_getElem hj]
   dsimp only
   have hsl:List.take (Int.toNat (IntKind.wrap .i64 ((j:Int) + 1)) - Int.toNat (j:Int)) (List.drop (Int.toNat (j:Int)) a0.f_Boxes) = [a0.f_Boxes[j]]:=by
    rw [wrap_s j (by omega),Int.toNat_natCast,Int.toNat_natCast,show j + 1 - j = 1 by omega,drop_at hj]; rfl
   have hS:=same_sub n f4 (l:=[a0.f_Boxes[j]]) (fun b hb=>by rw [List.mem_singleton.1 hb]; exact List.getElem_mem hj) (by simp) (by omega)
   have d0:decide ((j:Int) ≥ 0) = true:=decide_eq_true (by omega)
   rw [hsl,wrap_s j (by omega)]
   simp only [Option.isSome_some,Option.getD_some,d0,bne_self_eq_false,cond_false,beq_self_eq_true,Bool.not_true,Bool.false_eq_true,if_false,Bool.false_or,if_true]
   rw [if_pos (decide_eq_true (by omega)),if_pos (decide_eq_true (by omega)),hS]
   rfl
end Go.Proofs.Ytaecmkldkljioaa.M
