import Derived.Test.YtaecmkldkljioaaQP36S
set_option linter.all false
namespace Go.Proofs.Ytaecmkldkljioaa.M
open Go Go.Proofs.Ytaecmkldkljioaa.RX Go.Proofs.Ytaecmkldkljioaa.PL
set_option maxRecDepth 100000
theorem anyScan {α σ X:Type} {L:Nat → Int → Option (Sum σ X)} (l:List α) (q:α → Bool) (s:σ) (x:X) (hN:l.length < 1000000)
  (hs:∀ k i (h:i < l.length),L (k + 1) (i:Int) = if q l[i] = true then some (.inr x) else L k (IntKind.wrap .i64 ((i:Int) + 1)))
  (he:∀ k,L (k + 1) (l.length:Int) = some (.inl s)):∀ (k i:Nat),i ≤ l.length → l.length - i < k → L k (i:Int) = some (if (l.drop i).any q = true then .inr x else .inl s)
 | 0,i,_,h=>by omega
 | k + 1,i,h1,h2=>by
  by_cases h:i < l.length
  ·rw [hs k i h,drop_at h,List.any_cons]
   cases hq:q l[i] with
   | true=>rfl
   | false =>
    rw [if_neg (by decide),wrap_s i (by omega),Bool.false_or]
    exact anyScan l q s x hN hs he k (i + 1) (by omega) (by omega)
  ·have:i = l.length:=by omega
   subst this
   rw [he,List.drop_eq_nil_of_le (Nat.le_refl _)]; rfl
theorem findSome_no {α ρ:Type}:∀ l:List α,l.findSome? (fun _=>(none:Option ρ)) = none
 | []=>rfl
 | _ :: l=>by rw [List.findSome?_cons]; exact findSome_no l
theorem filtL {α β:Type} {L:Nat → List β → Int → Option (List β)} (l:List α) (p:α → Bool) (f:α → β) (hN:l.length ≤ 1000)
  (hs:∀ k s i (h:i < l.length),s.length ≤ i → L (k + 1) s (i:Int) = L k (if p l[i] = true then s ++ [f l[i]] else s) (IntKind.wrap .i64 ((i:Int) + 1)))
  (he:∀ k s,L (k + 1) s (l.length:Int) = some s) (k:Nat) (hk:l.length < k):L k [] 0 = some ((l.filter p).map f):=by
 have:=gather (L:=L) l (fun s x=>if p x = true then s ++ [f x] else s) id (fun i s=>s.length ≤ i) (by omega) hs
  (fun s i h hi=>by split <;> (try simp only [List.length_append,List.length_cons,List.length_nil]) <;> omega) (fun k s _=>he k s) k 0 [] (by omega) (by omega) (by simp)
 have this:L k [] 0 = _:=this.1
 rw [this,List.drop_zero]
 have key:∀ (l:List α) (acc:List β),l.foldl (fun s x=>if p x = true then s ++ [f x] else s) acc = acc ++ (l.filter p).map f:=by
  intro l
  induction l with
  | nil=>intro acc; simp
  | cons x l ih =>
   intro acc
   rw [List.foldl_cons,ih,List.filter_cons]
   cases p x <;> simp
 rw [key]; simp
theorem findScan {α σ X:Type} {L:Nat → Int → Option (Sum σ X)} (l:List α) (q:α → Bool) (s:σ) (x:α → X) (hN:l.length < 1000000)
  (hs:∀ k i (h:i < l.length),L (k + 1) (i:Int) = if q l[i] = true then some (.inr (x l[i])) else L k (IntKind.wrap .i64 ((i:Int) + 1)))
  (he:∀ k,L (k + 1) (l.length:Int) = some (.inl s)):∀ (k i:Nat),i ≤ l.length → l.length - i < k → L k (i:Int) = some (match (l.drop i).find? q with | some u=>.inr (x u) | none=>.inl s)
 | 0,i,_,h=>by omega
 | k + 1,i,h1,h2=>by
  by_cases h:i < l.length
  ·rw [hs k i h,drop_at h,List.find?_cons]
   cases hq:q l[i] with
   | true=>rfl
   | false =>
    rw [if_neg (by decide),wrap_s i (by omega)]
    exact findScan l q s x hN hs he k (i + 1) (by omega) (by omega)
  ·have:i = l.length:=by omega
   subst this
   rw [he,List.drop_eq_nil_of_le (Nat.le_refl _)]; rfl
theorem lim216 {a:Nat} (h:a ≤ 100000):decide (a * (216 + 1) ≤ limit) = true:=decide_eq_true (by show a * 217 ≤ 140737488355328; omega)
theorem view_those_api_Container_o__view_Mine_1_e_eq (n:Nat) (l:LC) (c:BS) (hl:l.length ≤ 1000) (hn:100000 ≤ n):view_those_api_Container_o__view_Mine_1_e n l c = some (l.filter fun b=>view_Mine_1__e b c):=by
 unfold view_those_api_Container_o__view_Mine_1_e
 have:=filtL (L:=view_those_api_Container_o__view_Mine_1_e_l1 n c l (List.length l:Int)) l (fun b=>view_Mine_1__e b c) id hl
  (fun k s i h hs=>by
   rw [view_those_api_Container_o__view_Mine_1_e_l1,if_pos (lt_i h),view_those_api_Container_o__view_Mine_1_e_j2,if_pos (in_i h),at_i h,if_pos (lim216 (by simp only [List.length_cons,List.length_nil]; omega))]
   simp only [lett]
   by_cases hp:view_Mine_1__e l[i] c = true
   ·rw [if_pos hp,if_pos hp]; rfl
   ·rw [if_neg hp,if_neg hp]; rfl)
  (fun k s=>by rw [view_those_api_Container_o__view_Mine_1_e_l1,nlt_n]; rfl) n (by omega)
 rw [this]; simp
theorem view_those_api_Container__view_Service_1_e_eq (n:Nat) (l:LC) (c:BS) (hl:l.length ≤ 1000) (hn:100000 ≤ n):view_those_api_Container__view_Service_1_e n l c = some (l.filter fun b=>view_Service_1__e b c):=by
 unfold view_those_api_Container__view_Service_1_e
 have:=filtL (L:=view_those_api_Container__view_Service_1_e_l1 n c l (List.length l:Int)) l (fun b=>view_Service_1__e b c) id hl
  (fun k s i h hs=>by
   rw [view_those_api_Container__view_Service_1_e_l1,if_pos (lt_i h),view_those_api_Container__view_Service_1_e_j2,if_pos (in_i h),at_i h,if_pos (lim216 (by simp only [List.length_cons,List.length_nil]; omega))]
   simp only [lett]
   by_cases hp:view_Service_1__e l[i] c = true
   ·rw [if_pos hp,if_pos hp]; rfl
   ·rw [if_neg hp,if_neg hp]; rfl)
  (fun k s=>by rw [view_those_api_Container__view_Service_1_e_l1,nlt_n]; rfl) n (by omega)
 rw [this]; simp
def insP (x:S_api_Container):LC → LC
 | []=>[x]
 | y :: r=>if LT x y = true then x :: y :: r else y :: insP x r
theorem insP_perm (x:S_api_Container):∀ l:LC,(insP x l).Perm (x :: l)
 | []=>.refl _
 | y :: r=>by
  unfold insP
  split
  ·exact .refl _
  ·exact ((insP_perm x r).cons y).trans (List.Perm.swap _ _ _)
theorem insP_srt (x:S_api_Container):∀ l:LC,Srt l → Srt (insP x l)
 | [],_=>by simp [insP]
 | y :: r,h=>by
  unfold insP
  have h:=List.pairwise_cons.1 h
  split
  ·rename_i hxy
   refine List.pairwise_cons.2 ⟨fun b hb=>?_,List.pairwise_cons.2 h⟩
   rcases List.mem_cons.1 hb with rfl | hb
   ·exact LE.of_lt hxy
   ·exact (LE.of_lt hxy).trans (h.1 b hb)
  ·rename_i hxy
   refine List.pairwise_cons.2 ⟨fun b hb=>?_,insP_srt x r h.2⟩
   rcases List.mem_cons.1 ((insP_perm x r).mem_iff.1 hb) with rfl | hb
   ·show LT b y = false
    simpa using hxy
   ·exact h.1 b hb
def mineS (boxes:LC) (p:BS):LC:=boxes.foldl (fun s b=>if (b.f_Spec.f_Project == p) = true then insP b s else s) []
theorem fold_mine (p:BS):∀ (l s:LC),Srt s → (l.foldl (fun s b=>if (b.f_Spec.f_Project == p) = true then insP b s else s) s).Perm (s ++ l.filter fun b=>b.f_Spec.f_Project == p) ∧ Srt (l.foldl (fun s b=>if (b.f_Spec.f_Project == p) = true then insP b s else s) s)
 | [],s,h=>⟨by simp,h⟩
 | b :: l,s,h=>by
  rw [List.foldl_cons,List.filter_cons]
  by_cases hb:(b.f_Spec.f_Project == p) = true
  ·rw [if_pos hb,if_pos hb]
   obtain ⟨h1,h2⟩:=fold_mine p l (insP b s) (insP_srt b s h)
   refine ⟨h1.trans ?_,h2⟩
   refine ((insP_perm b s).append_right _).trans ?_
   exact List.perm_middle.symm
  ·rw [if_neg hb,if_neg hb]
   exact fold_mine p l s h
theorem mineS_perm (boxes:LC) (p:BS):(mineS boxes p).Perm (boxes.filter fun b=>b.f_Spec.f_Project == p):=by
 have:=(fold_mine p boxes [] .nil).1
 rw [List.nil_append] at this
 exact this
theorem mineS_srt (boxes:LC) (p:BS):Srt (mineS boxes p):=(fold_mine p boxes [] .nil).2
theorem mineS_sub {boxes:LC} {p:BS} {b:S_api_Container} (h:b ∈ mineS boxes p):b ∈ boxes:=(List.mem_filter.1 ((mineS_perm boxes p).mem_iff.1 h)).1
theorem mineS_len (boxes:LC) (p:BS):(mineS boxes p).length ≤ boxes.length:=by rw [(mineS_perm boxes p).length_eq]; exact List.length_filter_le _ _
theorem id_inj {boxes:LC} (hn:(boxes.map (·.f_Id)).Nodup) {a b:S_api_Container} (ha:a ∈ boxes) (hb:b ∈ boxes) (h:a.f_Id = b.f_Id):a = b:=by
 induction boxes with
 | nil=>cases ha
 | cons x l ih =>
  rw [List.map_cons,List.nodup_cons] at hn
  rcases List.mem_cons.1 ha with ha1 | ha1
  ·rcases List.mem_cons.1 hb with hb1 | hb1
   ·rw [ha1,hb1]
   ·exact absurd (List.mem_map.2 ⟨b,hb1,by rw [← h,ha1]⟩) hn.1
  ·rcases List.mem_cons.1 hb with hb1 | hb1
   ·exact absurd (List.mem_map.2 ⟨a,ha1,by rw [h,hb1]⟩) hn.1
   ·exact ih hn.2 ha1 hb1
theorem vMine_eq (n:Nat) (seen:S_ref36_Seen) (p:BS) (hl:seen.f_Boxes.length ≤ 900) (hd:(seen.f_Boxes.map (·.f_Id)).Nodup) (hn:200000 ≤ n):view_Mine n seen p = some (mineS seen.f_Boxes p):=by
 unfold view_Mine
 rw [view_those_api_Container_o__view_Mine_1_e_eq n _ p (by omega) (by omega),Option.bind_some]
 have hfl:=List.length_filter_le (fun b=>view_Mine_1__e b p) seen.f_Boxes
 obtain ⟨C,h1,h2,h3⟩:=sorted_ok n hn (seen.f_Boxes.filter fun b=>view_Mine_1__e b p) (by omega)
 rw [h1,Option.bind_some]
 have hp:C.Perm (mineS seen.f_Boxes p):=h2.trans (mineS_perm seen.f_Boxes p).symm
 rw [hp.eq_of_pairwise (le:=LE) (fun a b ha hb hab hba=>id_inj hd ((List.mem_filter.1 (h2.mem_iff.1 ha)).1) (mineS_sub hb) (LE.id_of hab hba)) h3 (mineS_srt _ _)]
def svcP (prj:S_api_Project) (s:BS):Bool:=prj.f_Services.any fun x=>x.f_Name == s
theorem find_any {α:Type} (q:α → Bool) (l:List α):(l.find? q).isSome = l.any q:=by
 induction l with
 | nil=>rfl
 | cons x l ih=>rw [List.find?_cons,List.any_cons,← ih]; cases q x <;> rfl
theorem load_eq (n:Nat) (prj:S_api_Project) (s:BS) (hl:prj.f_Services.length ≤ 1000) (hn:100000 ≤ n):∃ x,load_Service n prj s = some (x,svcP prj s):=by
 unfold load_Service
 have:=findScan (L:=fun k i=>load_Service_l1 n s prj.f_Services (List.length prj.f_Services:Int) k i (S_api_Service.mk [] [] [] [] [] [] [] [] [] 0 (S_api_Check.mk [] 0 0 0) 0 0 0 0)) prj.f_Services (fun x=>x.f_Name == s) (S_api_Service.mk [] [] [] [] [] [] [] [] [] 0 (S_api_Check.mk [] 0 0 0) 0 0 0 0) (fun x=>(true,x)) (by omega)
  (fun k i h=>by
   show load_Service_l1 n s prj.f_Services (List.length prj.f_Services:Int) (k + 1) (i:Int) _ = _
   rw [load_Service_l1,if_pos (lt_i h),if_pos (in_i h),at_i h])
  (fun k=>by
   show load_Service_l1 n s prj.f_Services (List.length prj.f_Services:Int) (k + 1) (List.length prj.f_Services:Int) _ = _
   rw [load_Service_l1,nlt_n]; rfl) n 0 (by omega) (by omega)
 have this:load_Service_l1 n s prj.f_Services (List.length prj.f_Services:Int) n 0 _ = _:=this
 rw [this,List.drop_zero]
 unfold svcP
 rw [← find_any]
 cases prj.f_Services.find? fun x=>x.f_Name == s with
 | none=>exact ⟨_,rfl⟩
 | some u=>exact ⟨_,rfl⟩
theorem vOrph1_eq (n:Nat) (b:S_api_Container) (prj:S_api_Project) (hl:prj.f_Services.length ≤ 1000) (hn:100000 ≤ n):view_Orphans_1__e n b prj = some (!svcP prj b.f_Spec.f_Service):=by
 unfold view_Orphans_1__e
 obtain ⟨x,hx⟩:=load_eq n prj b.f_Spec.f_Service hl hn
 rw [hx]; rfl
def orphP (prj:S_api_Project) (l:LC):LC:=l.filter fun b=>!svcP prj b.f_Spec.f_Service
theorem thoseO_eq (n:Nat) (l:LC) (prj:S_api_Project) (hl:l.length ≤ 1000) (hs:prj.f_Services.length ≤ 1000) (hn:100000 ≤ n):view_those_api_Container__view_Orphans_1_e n l prj = some (orphP prj l):=by
 unfold view_those_api_Container__view_Orphans_1_e
 have:=filtL (L:=view_those_api_Container__view_Orphans_1_e_l1 n prj l (List.length l:Int)) l (fun b=>!svcP prj b.f_Spec.f_Service) id hl
  (fun k s i h hs'=>by
   rw [view_those_api_Container__view_Orphans_1_e_l1,if_pos (lt_i h),view_those_api_Container__view_Orphans_1_e_j2,if_pos (in_i h),at_i h,vOrph1_eq n _ prj hs hn,Option.bind_some,if_pos (lim216 (by simp only [List.length_cons,List.length_nil]; omega))]
   cases svcP prj l[i].f_Spec.f_Service <;> rfl)
  (fun k s=>by rw [view_those_api_Container__view_Orphans_1_e_l1,nlt_n]; rfl) n (by omega)
 rw [this]; simp [orphP]
def servP (s:BS) (l:LC):LC:=l.filter fun b=>b.f_Spec.f_Service == s
theorem vService_eq (n:Nat) (seen:S_ref36_Seen) (p s:BS) (hl:seen.f_Boxes.length ≤ 900) (hd:(seen.f_Boxes.map (·.f_Id)).Nodup) (hn:200000 ≤ n):view_Service n seen p s = some (servP s (mineS seen.f_Boxes p)):=by
 unfold view_Service
 have:=mineS_len seen.f_Boxes p
 rw [vMine_eq n seen p hl hd hn,Option.bind_some,view_those_api_Container__view_Service_1_e_eq n _ s (by omega) (by omega)]; rfl
theorem vOrphans_eq (n:Nat) (seen:S_ref36_Seen) (prj:S_api_Project) (hl:seen.f_Boxes.length ≤ 900) (hs:prj.f_Services.length ≤ 1000) (hd:(seen.f_Boxes.map (·.f_Id)).Nodup) (hn:200000 ≤ n):view_Orphans n seen prj = some (orphP prj (mineS seen.f_Boxes prj.f_Name)):=by
 unfold view_Orphans
 have:=mineS_len seen.f_Boxes prj.f_Name
 rw [vMine_eq n seen _ hl hd hn,Option.bind_some,thoseO_eq n _ prj (by omega) hs (by omega)]; rfl
theorem vFind_eq (n:Nat) (l:LC) (id:Int) (hl:l.length ≤ 900) (hn:100000 ≤ n):view_Find n l id = some ((l.find? fun b=>b.f_Id == id).getD Z_api_Container,(l.find? fun b=>b.f_Id == id).isSome):=by
 unfold view_Find
 have:=findScan (L:=fun k i=>view_Find_l1 n id l (List.length l:Int) k i Z_api_Container) l (fun b=>b.f_Id == id) Z_api_Container (fun x=>(true,x)) (by omega)
  (fun k i h=>by
   show view_Find_l1 n id l (List.length l:Int) (k + 1) (i:Int) _ = _
   rw [view_Find_l1,if_pos (lt_i h),if_pos (in_i h),at_i h])
  (fun k=>by
   show view_Find_l1 n id l (List.length l:Int) (k + 1) (List.length l:Int) _ = _
   rw [view_Find_l1,nlt_n]; rfl) n 0 (by omega) (by omega)
 have this:view_Find_l1 n id l (List.length l:Int) n 0 Z_api_Container = _:=this
 rw [List.drop_zero] at this
 show (view_Find_l1 n id l (List.length l:Int) n 0 Z_api_Container).bind _ = _
 rw [this]
 cases l.find? fun b=>b.f_Id == id <;> rfl
theorem few36_l2 (n:Nat) (seen:S_ref36_Seen) (i:Nat) (hi:i < seen.f_Boxes.length) (hl:seen.f_Boxes.length ≤ 900) (hn:100000 ≤ n):law36_Few_l2 n (i:Int) seen n 0 = some (if ((seen.f_Boxes.take i).any fun b=>seen.f_Boxes[i].f_Id == b.f_Id) = true then .inr false else .inl ()):=by
 have hlen:(seen.f_Boxes.take i).length = i:=by simp; omega
 have:=anyScan (L:=law36_Few_l2 n (i:Int) seen) (seen.f_Boxes.take i) (fun b=>seen.f_Boxes[i].f_Id == b.f_Id) () false (by omega)
  (fun k j h=>by
   have hj:j < seen.f_Boxes.length:=by omega
   rw [law36_Few_l2,if_pos (decide_eq_true (by omega)),if_pos (in_i hi),if_pos (in_i hj),at_i hi,at_i hj,List.getElem_take])
  (fun k=>by rw [hlen,law36_Few_l2,nlt_n]; rfl) n 0 (by omega) (by omega)
 rw [List.drop_zero] at this
 exact this
def fewB (b:S_api_Container):Bool:=(bif (decide ((List.length b.f_Spec.f_Nets:Int) > 10)) then true else (decide ((List.length b.f_Spec.f_Vols:Int) > 10)))
theorem few36_l1 (n:Nat) (seen:S_ref36_Seen) (hl:seen.f_Boxes.length ≤ 900) (hn:100000 ≤ n):∀ (k i:Nat),i ≤ seen.f_Boxes.length → seen.f_Boxes.length - i < k →
  ∃ o,law36_Few_l1 n seen k (i:Int) = some o ∧ (∀ b,o = .inr b → b = false) ∧ (o = .inl () → ∀ (j:Nat) (hj:j < seen.f_Boxes.length),i ≤ j → fewB seen.f_Boxes[j] = false ∧ ((seen.f_Boxes.take j).any fun b=>seen.f_Boxes[j].f_Id == b.f_Id) = false)
 | 0,_,_,h=>by omega
 | k + 1,i,h1,h2=>by
  rw [law36_Few_l1]
  by_cases hi:i < seen.f_Boxes.length
  ·rw [if_pos (lt_i hi),if_pos (in_i hi),at_i hi,if_pos (by rw [in_i hi]; simp)]
   simp only [lett]
   by_cases hf:fewB seen.f_Boxes[i] = true
   ·refine ⟨.inr false,?_,fun b h=>(by cases h; rfl),fun h=>(by cases h)⟩
    unfold fewB at hf
    rw [if_pos hf]
   ·have hf':fewB seen.f_Boxes[i] = false:=by simpa using hf
    have hf2:=hf
    unfold fewB at hf
    rw [if_neg hf,few36_l2 n seen i hi hl hn,Option.bind_some]
    by_cases hd:((seen.f_Boxes.take i).any fun b=>seen.f_Boxes[i].f_Id == b.f_Id) = true
    ·rw [if_pos hd]
     exact ⟨.inr false,rfl,fun b h=>(by cases h; rfl),fun h=>(by cases h)⟩
    ·rw [if_neg hd,Sum.elim_inl,wrap_s i (by omega)]
     obtain ⟨o,e1,e2,e3⟩:=few36_l1 n seen hl hn k (i + 1) (by omega) (by omega)
     refine ⟨o,e1,e2,fun h j hj hij=>?_⟩
     by_cases e:i = j
     ·subst e; exact ⟨hf',by simpa using hd⟩
     ·exact e3 h j hj (by omega)
  ·have:i = seen.f_Boxes.length:=by omega
   rw [this,nlt_n]
   exact ⟨.inl (),rfl,fun b h=>(by cases h),fun _ j hj hij=>by omega⟩
structure Few36 (seen:S_ref36_Seen):Prop where
 boxes:seen.f_Boxes.length ≤ 40
 nets:seen.f_Nets.length ≤ 40
 vols:seen.f_Vols.length ≤ 40
 few:∀ b ∈ seen.f_Boxes,b.f_Spec.f_Nets.length ≤ 1000 ∧ b.f_Spec.f_Vols.length ≤ 1000
 ids:(seen.f_Boxes.map (·.f_Id)).Nodup
theorem few36_eq (n:Nat) (seen:S_ref36_Seen) (hn:100000 ≤ n):∃ b,law36_Few n seen = some b ∧ (b = true → Few36 seen):=by
 unfold law36_Few
 simp only [lett]
 by_cases hx:(bif (bif (decide ((List.length seen.f_Boxes:Int) > 40)) then true else (decide ((List.length seen.f_Nets:Int) > 40))) then true else (decide ((List.length seen.f_Vols:Int) > 40))) = true
 ·rw [if_pos hx]; exact ⟨false,rfl,fun h=>by cases h⟩
 ·rw [if_neg hx]
  simp only [Bool.cond_true_left,Bool.or_eq_true,decide_eq_true_eq] at hx
  obtain ⟨o,e1,e2,e3⟩:=few36_l1 n seen (by omega) hn n 0 (by omega) (by omega)
  have e1:law36_Few_l1 n seen n 0 = _:=e1
  rw [e1,Option.bind_some]
  cases o with
  | inr b=>exact ⟨b,rfl,fun h=>by rw [e2 b rfl] at h; cases h⟩
  | inl u =>
   refine ⟨true,rfl,fun _=>⟨by omega,by omega,by omega,fun b hb=>?_,?_⟩⟩
   ·obtain ⟨j,hj,rfl⟩:=List.mem_iff_getElem.1 hb
    have:=(e3 rfl j hj (by omega)).1
    unfold fewB at this
    simp only [Bool.cond_true_left,Bool.or_eq_false_iff,decide_eq_false_iff_not] at this
    omega
   ·show List.Pairwise (· ≠ ·) _
    rw [List.pairwise_iff_getElem]
    intro i j hi hj hij he
    simp only [List.length_map] at hi hj
    simp only [List.getElem_map] at he
    have:=(e3 rfl j hj (by omega)).2
    rw [List.any_eq_false] at this
    refine this seen.f_Boxes[i] ?_ (beq_iff_eq.2 he.symm)
    exact List.mem_take_iff_getElem.2 ⟨i,by omega,rfl⟩
end Go.Proofs.Ytaecmkldkljioaa.M
