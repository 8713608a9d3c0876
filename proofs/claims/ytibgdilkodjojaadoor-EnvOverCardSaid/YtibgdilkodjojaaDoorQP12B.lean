import Derived.Test.YtibgdilkodjojaaDoorQP12
set_option linter.all false
namespace Go.Proofs.YtibgdilkodjojaaDoor.M
open Go Go.Proofs.YtibgdilkodjojaaDoor.RX Go.Proofs.YtibgdilkodjojaaDoor.PL
set_option maxRecDepth 100000
theorem strSort_sorted (l:List BS):(strSort l).Pairwise (· ≤ ·):=by
 have:=List.pairwise_mergeSort (le:=fun x y:BS=>decide (x ≤ y)) (fun a b c h1 h2=>by simp only [decide_eq_true_eq] at *; exact bs_le_trans h1 h2) (fun a b=>by simpa using bs_total a b) l
 exact this.imp fun h=>by simpa using h
theorem lim17 {a:Nat} (h:a ≤ 1000000):decide (a * 17 ≤ limit) = true:=decide_eq_true (by show a * 17 ≤ 140737488355328; omega)
theorem mlook_mput {α:Type} (x y:MK) (v:α):∀ l:List (MK × α),mlook (mput l x v) y = if x = y then some v else mlook l y
 | []=>by unfold mput mlook; simp [mlook]
 | p :: r=>by
  unfold mput
  by_cases h1:p.1 = x
  ·rw [if_pos h1]
   unfold mlook
   by_cases h2:x = y
   ·rw [if_pos h2,if_pos h2]
   ·rw [if_neg h2,if_neg h2,if_neg (by rw [h1]; exact h2)]
  ·rw [if_neg h1]
   unfold mlook
   rw [mlook_mput x y v r]
   by_cases h2:p.1 = y
   ·rw [if_pos h2,if_pos h2,if_neg (fun e=>h1 (by rw [h2,e]))]
   ·rw [if_neg h2,if_neg h2]
abbrev Vr:=S_api_Var
def lastV (l:List Vr) (x:BS):Option BS:=(l.reverse.find? fun v=>v.f_Key == x).map (·.f_Val)
theorem lastV_snoc (l:List Vr) (v:Vr) (x:BS):lastV (l ++ [v]) x = if v.f_Key = x then some v.f_Val else lastV l x:=by
 unfold lastV
 rw [List.reverse_append,List.reverse_singleton,List.singleton_append,List.find?_cons]
 by_cases h:v.f_Key = x
 ·rw [if_pos h,show (v.f_Key == x) = true by rw [h]; exact beq_self_eq_true _]; rfl
 ·rw [if_neg h,show (v.f_Key == x) = false by rw [beq_eq_false_iff_ne]; exact h]
theorem lastV_none {l:List Vr} {x:BS} (h:x ∉ l.map (·.f_Key)):lastV l x = none:=by
 unfold lastV
 rw [Option.map_eq_none_iff,List.find?_eq_none]
 intro v hv e
 exact h (List.mem_map.2 ⟨v,List.mem_reverse.1 hv,by simpa using e⟩)
theorem lastV_some {l:List Vr} {x:BS} (h:x ∈ l.map (·.f_Key)):∃ v,lastV l x = some v:=by
 unfold lastV
 obtain ⟨v,hv,e⟩:=List.mem_map.1 h
 cases hf:l.reverse.find? (fun v=>v.f_Key == x) with
 | some y=>exact ⟨_,rfl⟩
 | none =>
  have:=List.find?_eq_none.1 hf v (List.mem_reverse.2 hv)
  simp [e] at this
def gat (l:List Vr):List Vr:=(srt (l.map (·.f_Key))).map fun k=>⟨k,(lastV l k).getD []⟩
abbrev Mp12:=List (MK × S_env_entry)
def HoldsM (m:Mp12) (l:List Vr):Prop:=∃ ks:List BS,m.map (·.1) = ks.map Sum.inl ∧ ks.Nodup ∧ (∀ x,x ∈ ks ↔ x ∈ l.map (·.f_Key)) ∧ ∀ x:BS,mlook m (.inl x) = (lastV l x).map S_env_entry.mk
theorem HoldsM.nil:HoldsM [] []:=⟨[],rfl,List.nodup_nil,fun x=>Iff.rfl,fun x=>rfl⟩
theorem mput_keys {α:Type} (x:MK) (v:α):∀ l:List (MK × α),(x ∈ l.map (·.1) → (mput l x v).map (·.1) = l.map (·.1)) ∧ (x ∉ l.map (·.1) → (mput l x v).map (·.1) = l.map (·.1) ++ [x])
 | []=>⟨fun h=>(by cases h),fun _=>rfl⟩
 | p :: r=>by
  obtain ⟨h3,h4⟩:=mput_keys x v r
  unfold mput
  by_cases h1:p.1 = x
  ·rw [if_pos h1]
   refine ⟨fun _=>by rw [List.map_cons,List.map_cons,h1],fun h=>absurd ?_ h⟩
   rw [List.map_cons,h1]
   exact List.mem_cons_self
  ·rw [if_neg h1,List.map_cons,List.map_cons]
   refine ⟨fun h=>?_,fun h=>?_⟩
   ·rcases List.mem_cons.1 h with h | h
    ·exact absurd h.symm h1
    ·rw [h3 h]
   ·rw [h4 fun h2=>h (List.mem_cons_of_mem _ h2)]; rfl
theorem HoldsM.put {m:Mp12} {l:List Vr} (h:HoldsM m l) (v:Vr):HoldsM (mput m (.inl v.f_Key) ⟨v.f_Val⟩) (l ++ [v]):=by
 obtain ⟨ks,h1,h2,h3,h4⟩:=h
 have hl:∀ x:BS,mlook (mput m (.inl v.f_Key) ⟨v.f_Val⟩) (.inl x) = (lastV (l ++ [v]) x).map S_env_entry.mk:=by
  intro x
  rw [mlook_mput,lastV_snoc]
  by_cases hx:v.f_Key = x
  ·rw [if_pos hx,if_pos (by rw [hx])]; rfl
  ·rw [if_neg hx,if_neg (fun e=>hx (Sum.inl.inj e)),h4]
 have hmem:(Sum.inl v.f_Key:MK) ∈ m.map (·.1) ↔ v.f_Key ∈ ks:=by
  rw [h1,List.mem_map]
  exact ⟨fun ⟨y,hy,e⟩=>by cases e; exact hy,fun h=>⟨_,h,rfl⟩⟩
 by_cases hk:v.f_Key ∈ ks
 ·refine ⟨ks,by rw [(mput_keys _ _ _).1 (hmem.2 hk),h1],h2,fun x=>?_,hl⟩
  rw [List.map_append,List.mem_append,h3]
  refine ⟨.inl,fun h=>h.elim id fun h=>?_⟩
  have:x = v.f_Key:=by simpa using h
  rw [this]
  exact (h3 _).1 hk
 ·refine ⟨ks ++ [v.f_Key],by rw [(mput_keys _ _ _).2 (fun h=>hk (hmem.1 h)),h1,List.map_append]; rfl,?_,fun x=>?_,hl⟩
  ·rw [List.nodup_append]
   exact ⟨h2,by simp,fun a ha b hb=>by rw [List.mem_singleton.1 hb]; exact fun e=>hk (e ▸ ha)⟩
  ·rw [List.map_append,List.mem_append,List.mem_append,h3]; rfl
theorem strSort_srt {ks:List BS} (h:ks.Nodup):strSort ks = srt ks:=by
 refine Asc.ext ?_ (asc_srt ks) fun x=>?_
 ·have h1:=strSort_sorted ks
  have h2:(strSort ks).Nodup:=(List.mergeSort_perm ks _).nodup_iff.2 h
  exact (List.pairwise_and_iff.2 ⟨h1,h2⟩).imp fun ⟨a,b⟩=>bs_lt_of_le_of_ne a b
 ·rw [mem_srt]
  exact List.mem_mergeSort
theorem HoldsM.keys {m:Mp12} {l:List Vr} (h:HoldsM m l):keysS m = srt (l.map (·.f_Key)) ∧ m.length = (srt (l.map (·.f_Key))).length:=by
 obtain ⟨ks,h1,h2,h3,_⟩:=h
 have e:m.map (fun p=>keyStr p.1) = ks:=by
  have:=congrArg (List.map keyStr) h1
  rw [List.map_map,List.map_map] at this
  simpa [Function.comp_def,keyStr] using this
 have hs:srt ks = srt (l.map (·.f_Key)):=srt_ext h3
 refine ⟨by unfold keysS; rw [e,strSort_srt h2,hs],?_⟩
 rw [← hs,← strSort_srt h2]
 show _ = (List.mergeSort ks _).length
 rw [List.length_mergeSort,← e,List.length_map]
def Short (l:List Vr):Prop:=∀ v ∈ l,isName va1 va2 v.f_Key = true
theorem isName_len {p q:UInt8 → Bool} {s:BS} (h:isName p q s = true):s.length ≤ 24 ∧ s ≠ []:=by
 cases s with
 | nil=>cases h
 | cons c r =>
  unfold isName at h
  rw [Bool.and_eq_true,Bool.and_eq_true] at h
  have:=of_decide_eq_true h.1.1
  exact ⟨by rw [List.length_cons]; omega,List.cons_ne_nil _ _⟩
theorem HoldsM.ok {m:Mp12} {l:List Vr} (h:HoldsM m l) (hs:Short l) (hl:l.length ≤ 100000):keysOkS m = true:=by
 have hlen:=h.keys.2
 have hle:=srt_length_le (l.map (·.f_Key))
 rw [List.length_map] at hle
 obtain ⟨ks,h1,h2,h3,_⟩:=h
 unfold keysOkS
 rw [Bool.and_eq_true,List.all_eq_true]
 refine ⟨lim17 (by omega),fun p hp=>?_⟩
 have:p.1 ∈ ks.map Sum.inl:=by rw [← h1]; exact List.mem_map_of_mem hp
 obtain ⟨k,hk,e⟩:=List.mem_map.1 this
 obtain ⟨v,hv,e2⟩:=List.mem_map.1 ((h3 k).1 hk)
 have:=(isName_len (hs v hv)).1
 rw [← e,← e2]
 show decide (v.f_Key.length ≤ limit) = true
 exact decide_eq_true (by show _ ≤ 140737488355328; omega)
theorem cap33 {a b:Nat} (h:a + b ≤ 1000000000):decide ((a + b) * (32 + 1) ≤ limit) = true:=decide_eq_true (by show (a + b) * (32 + 1) ≤ 140737488355328; omega)
theorem foldl_snoc {α β:Type} (g:α → β):∀ (l:List α) (acc:List β),l.foldl (fun acc x=>acc ++ [g x]) acc = acc ++ l.map g
 | [],acc=>by simp
 | x :: l,acc=>by rw [List.foldl_cons,foldl_snoc g l,List.append_assoc]; rfl
theorem told_l1 (n:Nat) (ks:List BS) (m:Mp12) (hk:ks.length ≤ 100000) (hn:ks.length < n):env_told__m0_l1 n ks (ks.length:Int) m n [] 0 = some (ks.map fun k=>⟨k,((mlook m (.inl k)).getD ⟨[]⟩).f_val⟩):=by
 have:=(gather (L:=env_told__m0_l1 n ks (ks.length:Int) m) ks (fun (acc:List Vr) k=>acc ++ [⟨k,((mlook m (.inl k)).getD ⟨[]⟩).f_val⟩]) id (fun i acc=>acc.length ≤ i) (by omega)
  (fun k acc i h hI=>by
   rw [env_told__m0_l1,if_pos (lt_i h),if_pos (in_i h),if_pos (cap33 (by simp; omega)),at_i h]
   rfl)
  (fun acc i h hI=>by rw [List.length_append]; simpa using hI)
  (fun k acc _=>by rw [env_told__m0_l1,nlt_n]; rfl) n 0 [] (by omega) (by omega) (by simp)).1
 rw [show (0:Int) = ((0:Nat):Int) from rfl,this,List.drop_zero,foldl_snoc,List.nil_append]; rfl
theorem told_eq (n:Nat) (m:Mp12) (l:List Vr) (h:HoldsM m l) (hs:Short l) (hl:l.length ≤ 100000) (hn:200000 ≤ n):env_told__m0 n m = some (gat l,m):=by
 have hle:=srt_length_le (l.map (·.f_Key))
 rw [List.length_map] at hle
 unfold env_told__m0
 rw [if_pos (h.ok hs hl),h.keys.1,told_l1 n _ m (by omega) (by omega),Option.bind_some]
 congr 2
 refine List.map_congr_left fun k _=>?_
 obtain ⟨_,_,_,_,h4⟩:=h
 rw [h4]
 cases lastV l k <;> rfl
end Go.Proofs.YtibgdilkodjojaaDoor.M
