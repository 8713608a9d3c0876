import Derived.Test.YtaecmkldkljioaaQP36V
set_option linter.all false
namespace Go.Proofs.Ytaecmkldkljioaa.M
open Go Go.Proofs.Ytaecmkldkljioaa.RX Go.Proofs.Ytaecmkldkljioaa.PL
set_option maxRecDepth 100000
theorem awake36:law36_awake 600000 = some true:=by kernel_rfl
theorem parts_l2 (n:Nat) (prj:S_api_Project) (seen:S_ref36_Seen) (v6:Int) (i:Nat) (hi:i < prj.f_Services.length) (hl:prj.f_Services.length ≤ 900) (haw:law36_awake n = some true) (hn:100000 ≤ n) :
  law36_ViewParts_l2 n v6 (i:Int) prj seen n 0 = some (if ((prj.f_Services.take i).any fun s=>s.f_Name == prj.f_Services[i].f_Name) = true then .inr true else .inl ()):=by
 have hlen:(prj.f_Services.take i).length = i:=by simp; omega
 have:=anyScan (L:=law36_ViewParts_l2 n v6 (i:Int) prj seen) (prj.f_Services.take i) (fun s=>s.f_Name == prj.f_Services[i].f_Name) () true (by omega)
  (fun k j h=>by
   have hj:j < prj.f_Services.length:=by omega
   rw [law36_ViewParts_l2,if_pos (decide_eq_true (by omega)),if_pos (in_i hj),if_pos (in_i hi),at_i hi,at_i hj,List.getElem_take,haw]; rfl)
  (fun k=>by rw [hlen,law36_ViewParts_l2,nlt_n]; rfl) n 0 (by omega) (by omega)
 rw [List.drop_zero] at this
 exact this
def sumP (l:LC) (ns:List BS):Nat:=(ns.map fun s=>(servP s l).length).sum
theorem sum_ok (l:LC):∀ ns:List BS,ns.Nodup → sumP l ns + (l.filter fun b=>!ns.contains b.f_Spec.f_Service).length = l.length
 | [],_=>by simp [sumP]
 | s :: ns,h=>by
  rw [List.nodup_cons] at h
  have ih:=sum_ok l ns h.2
  have key:∀ l:LC,(l.filter fun b=>!ns.contains b.f_Spec.f_Service).length = (servP s l).length + (l.filter fun b=>!(s :: ns).contains b.f_Spec.f_Service).length:=by
   intro l
   induction l with
   | nil=>rfl
   | cons b l ih =>
    unfold servP at ih ⊢
    rw [List.filter_cons,List.filter_cons,List.filter_cons,List.contains_cons]
    by_cases hb:b.f_Spec.f_Service = s
    ·have h1:ns.contains b.f_Spec.f_Service = false:=by
      rw [← Bool.not_eq_true,List.contains_iff_mem,hb]; exact h.1
     rw [h1,beq_iff_eq.2 hb]
     simp only [Bool.not_false,if_true,Bool.true_or,Bool.not_true,Bool.false_eq_true,if_false,List.length_cons]
     omega
    ·rw [beq_eq_false_iff_ne.2 hb]
     simp only [Bool.false_or,Bool.false_eq_true,if_false]
     cases ns.contains b.f_Spec.f_Service with
     | true=>simp only [Bool.not_true,Bool.false_eq_true,if_false]; omega
     | false=>simp only [Bool.not_false,if_true,List.length_cons]; omega
  have:=key l
  show ((servP s l).length + (ns.map fun s=>(servP s l).length).sum) + _ = _
  unfold sumP at ih
  omega
theorem parts_l1 (n:Nat) (prj:S_api_Project) (seen:S_ref36_Seen) (hF:Few36 seen) (hl:prj.f_Services.length ≤ 20) (haw:law36_awake n = some true) (hn:200000 ≤ n):∀ (k i c:Nat),i ≤ prj.f_Services.length → prj.f_Services.length - i < k → c ≤ 40 + 40 * i → ((prj.f_Services.take i).map (·.f_Name)).Nodup →
  law36_ViewParts_l1 n prj seen k (c:Int) (i:Int) = some (.inr true) ∨ (law36_ViewParts_l1 n prj seen k (c:Int) (i:Int) = some (.inl ((c + sumP (mineS seen.f_Boxes prj.f_Name) ((prj.f_Services.drop i).map (·.f_Name)):Nat):Int)) ∧ (prj.f_Services.map (·.f_Name)).Nodup)
 | 0,_,_,_,h,_,_=>by omega
 | k + 1,i,c,h1,h2,h3,h4=>by
  rw [law36_ViewParts_l1]
  by_cases hi:i < prj.f_Services.length
  ·rw [if_pos (lt_i hi),parts_l2 n prj seen _ i hi (by omega) haw (by omega),Option.bind_some]
   by_cases hd:((prj.f_Services.take i).any fun s=>s.f_Name == prj.f_Services[i].f_Name) = true
   ·rw [if_pos hd]; exact .inl rfl
   ·rw [if_neg hd,Sum.elim_inl,if_pos (in_i hi),at_i hi,vService_eq n seen _ _ (by have:=hF.boxes; omega) hF.ids hn,Option.bind_some]
    have hsl:(servP prj.f_Services[i].f_Name (mineS seen.f_Boxes prj.f_Name)).length ≤ 40:=by
     have a:=mineS_len seen.f_Boxes prj.f_Name
     have b:=hF.boxes
     have c:(servP prj.f_Services[i].f_Name (mineS seen.f_Boxes prj.f_Name)).length ≤ _:=List.length_filter_le _ _
     omega
    rw [wadd (by omega),wrap_s i (by omega)]
    have hnod:((prj.f_Services.take (i + 1)).map (·.f_Name)).Nodup:=by
     rw [List.take_succ_eq_append_getElem hi,List.map_append,List.nodup_append]
     refine ⟨h4,by simp,?_⟩
     intro a ha b hb
     simp only [List.map_cons,List.map_nil,List.mem_singleton] at hb
     subst hb
     obtain ⟨x,hx,rfl⟩:=List.mem_map.1 ha
     intro he
     exact hd (List.any_eq_true.2 ⟨x,hx,beq_iff_eq.2 he⟩)
    have:=parts_l1 n prj seen hF hl haw hn k (i + 1) (c + (servP prj.f_Services[i].f_Name (mineS seen.f_Boxes prj.f_Name)).length) (by omega) (by omega) (by omega) hnod
    rcases this with h | ⟨h,h'⟩
    ·exact .inl h
    ·refine .inr ⟨?_,h'⟩
     rw [h,drop_at hi,List.map_cons]
     unfold sumP
     rw [List.map_cons,List.sum_cons,Nat.add_assoc]
  ·have:i = prj.f_Services.length:=by omega
   subst this
   rw [List.take_length] at h4
   refine .inr ⟨?_,h4⟩
   rw [nlt_n,List.drop_eq_nil_of_le (Nat.le_refl _)]
   simp [sumP]
theorem svc_contains (prj:S_api_Project) (s:BS):svcP prj s = (prj.f_Services.map (·.f_Name)).contains s:=by
 unfold svcP
 rw [Bool.eq_iff_iff,List.any_eq_true,List.contains_iff_mem,List.mem_map]
 constructor
 ·rintro ⟨x,h1,h2⟩; exact ⟨x,h1,beq_iff_eq.1 h2⟩
 ·rintro ⟨x,h1,h2⟩; exact ⟨x,h1,beq_iff_eq.2 h2⟩
theorem parts_l3 (n:Nat) (prj:S_api_Project) (seen:S_ref36_Seen) (v6:Int) (hF:Few36 seen) (hl:prj.f_Services.length ≤ 20) (hn:200000 ≤ n):law36_ViewParts_l3 n v6 (mineS seen.f_Boxes prj.f_Name) prj seen n 0 = some (.inl ()):=by
 have lm:=mineS_len seen.f_Boxes prj.f_Name
 have lb:=hF.boxes
 have:=scanL (ρ:=Bool) (L:=law36_ViewParts_l3 n v6 (mineS seen.f_Boxes prj.f_Name) prj seen) (mineS seen.f_Boxes prj.f_Name) (fun _=>none) 0 (by omega)
  (fun k i h _=>by
   rw [law36_ViewParts_l3,if_pos (lt_i h)]
   have ej:law36_ViewParts_j4 n v6 (mineS seen.f_Boxes prj.f_Name) (i:Int) prj seen = some (.inl ()):=by
    unfold law36_ViewParts_j4
    obtain ⟨x,hx⟩:=load_eq n prj (mineS seen.f_Boxes prj.f_Name)[i].f_Spec.f_Service (by omega) (by omega)
    rw [if_pos (in_i h),at_i h,hx,Option.bind_some,vOrphans_eq n seen prj (by omega) (by omega) hF.ids hn,Option.bind_some]
    unfold law36_ViewParts_j5
    have fin:∀ l:LC,(mineS seen.f_Boxes prj.f_Name)[i] ∈ l → l.length ≤ 900 → ((view_Find n l (mineS seen.f_Boxes prj.f_Name)[i].f_Id).bind fun r9=>if (!r9.2) = true then (some (.inr false)) else (some (.inl ())):Option (Sum Unit Bool)) = some (.inl ()):=by
     intro l hm hll
     rw [vFind_eq n l _ hll (by omega),Option.bind_some]
     have:(l.find? fun b=>b.f_Id == (mineS seen.f_Boxes prj.f_Name)[i].f_Id).isSome = true:=by
      rw [find_any,List.any_eq_true]
      exact ⟨_,hm,beq_iff_eq.2 rfl⟩
     dsimp only
     rw [this]; rfl
    cases hs:svcP prj (mineS seen.f_Boxes prj.f_Name)[i].f_Spec.f_Service with
    | true =>
     have lq:(servP (mineS seen.f_Boxes prj.f_Name)[i].f_Spec.f_Service (mineS seen.f_Boxes prj.f_Name)).length ≤ _:=List.length_filter_le _ _
     rw [if_pos rfl,if_pos (in_i h),at_i h,vService_eq n seen _ _ (by omega) hF.ids hn,Option.bind_some,Option.bind_some,if_pos (in_i h)]
     exact fin _ (List.mem_filter.2 ⟨List.getElem_mem h,beq_iff_eq.2 rfl⟩) (by omega)
    | false =>
     have lq:(orphP prj (mineS seen.f_Boxes prj.f_Name)).length ≤ _:=List.length_filter_le _ _
     rw [if_neg (by simp),Option.bind_some,if_pos (in_i h)]
     exact fin _ (List.mem_filter.2 ⟨List.getElem_mem h,by rw [hs]; rfl⟩) (by omega)
   rw [ej]; rfl)
  (fun k=>by rw [law36_ViewParts_l3,nlt_n]; rfl) n 0 (by omega) (by omega) (by omega)
 have this:law36_ViewParts_l3 n v6 (mineS seen.f_Boxes prj.f_Name) prj seen n 0 = _:=this
 rw [this,List.drop_zero,findSome_no]; rfl
theorem law36_ViewParts_true (a0:S_ref36_Seen) (_:W_ref36_Seen a0) (a1:S_api_Project) (_:W_api_Project a1):∃ n,law36_ViewParts n a0 a1 = some true:=by
 obtain ⟨n,hn⟩:∃ n,n = 600000:=⟨_,rfl⟩
 refine ⟨n,?_⟩
 have haw:law36_awake n = some true:=by rw [hn]; exact awake36
 unfold law36_ViewParts
 obtain ⟨b,hb,hF⟩:=few36_eq n a0 (by omega)
 rw [hb,Option.bind_some,haw]
 cases b with
 | false=>rfl
 | true =>
  have hF:=hF rfl
  by_cases hs:(List.length a1.f_Services:Int) > 20
  ·rw [if_pos (by simp; omega)]; rfl
  rw [if_neg (by simp; omega)]
  have lb:=hF.boxes
  have lm:=mineS_len a0.f_Boxes a1.f_Name
  have lo:(orphP a1 (mineS a0.f_Boxes a1.f_Name)).length ≤ (mineS a0.f_Boxes a1.f_Name).length:=List.length_filter_le _ _
  rw [vOrphans_eq n a0 a1 (by omega) (by omega) hF.ids (by omega),Option.bind_some]
  have h1:=parts_l1 n a1 a0 hF (by omega) haw (by omega) n 0 (orphP a1 (mineS a0.f_Boxes a1.f_Name)).length (by omega) (by omega) (by omega) (by simp)
  rcases h1 with h1 | ⟨h1,hnod⟩
  ·have h1:law36_ViewParts_l1 n a1 a0 n _ 0 = _:=h1
   rw [h1]; rfl
  ·have h1:law36_ViewParts_l1 n a1 a0 n _ 0 = _:=h1
   rw [h1,Option.bind_some,Sum.elim_inl,vMine_eq n a0 _ (by omega) hF.ids (by omega),Option.bind_some,parts_l3 n a1 a0 _ hF (by omega) (by omega),Option.bind_some,Sum.elim_inl,List.drop_zero]
   have hsum:=sum_ok (mineS a0.f_Boxes a1.f_Name) (a1.f_Services.map (·.f_Name)) hnod
   have ho:orphP a1 (mineS a0.f_Boxes a1.f_Name) = (mineS a0.f_Boxes a1.f_Name).filter fun b=>!(a1.f_Services.map (·.f_Name)).contains b.f_Spec.f_Service:=by
    unfold orphP
    congr 1
    funext b
    rw [svc_contains]
   rw [← ho] at hsum
   have he:((((orphP a1 (mineS a0.f_Boxes a1.f_Name)).length + sumP (mineS a0.f_Boxes a1.f_Name) (a1.f_Services.map (·.f_Name)):Nat):Int) == (List.length (mineS a0.f_Boxes a1.f_Name):Int)) = true:=by
    rw [beq_iff_eq]; omega
   rw [he]; rfl
end Go.Proofs.Ytaecmkldkljioaa.M
