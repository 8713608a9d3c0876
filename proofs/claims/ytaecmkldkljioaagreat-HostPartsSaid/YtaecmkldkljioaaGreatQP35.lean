import Derived.Test.YtaecmkldkljioaaGreatQM35
import Derived.Test.YtaecmkldkljioaaGreatQLoop
set_option linter.all false
namespace Go.Proofs.YtaecmkldkljioaaGreat.M
open Go Go.Proofs.YtaecmkldkljioaaGreat.RX Go.Proofs.YtaecmkldkljioaaGreat.PL
set_option maxRecDepth 100000
theorem findSome_any {α:Type} (p:α → Bool):∀ l:List α,l.findSome? (fun x=>if p x = true then some true else none) = if l.any p = true then some true else none
 | []=>rfl
 | x :: l=>by rw [List.findSome?_cons,List.any_cons,findSome_any p l]; cases p x <;> simp
theorem any_beq (s:BS):∀ l:List BS,l.any (fun x=>x == s) = l.contains s
 | []=>rfl
 | x :: l=>by
  rw [List.any_cons,List.contains_cons,any_beq s l]
  congr 1
  rw [Bool.eq_iff_iff,beq_iff_eq,beq_iff_eq]; exact eq_comm
theorem ref02_In_eq (n:Nat) (l:List BS) (s:BS) (hl:l.length < 10000) (hn:100000 ≤ n):ref02_In n l s = some (l.contains s):=by
 unfold ref02_In
 have:=scanL (L:=ref02_In_l1 n l s) l (fun x=>if (x == s) = true then some true else none) 0 (by omega)
  (fun k i h _=>by
   rw [ref02_In_l1,if_pos (lt_i h),if_pos (in_i h),at_i h]
   cases l[i] == s <;> rfl)
  (fun k=>by rw [ref02_In_l1,nlt_n]; rfl) n 0 (by omega) (by omega) (by omega)
 rw [show (0:Int) = ((0:Nat):Int) from rfl,this,List.drop_zero,findSome_any,any_beq]
 cases l.contains s <;> rfl
theorem eq_drop {l m:List BS} {i:Nat} (h1:i < l.length) (h2:i < m.length):(l.drop i = m.drop i) ↔ l[i] = m[i] ∧ l.drop (i + 1) = m.drop (i + 1):=by
 rw [drop_at h1,drop_at h2,List.cons.injEq]
theorem same_l {L:Nat → Int → Option (Sum Unit Bool)} (l m:List BS) (hlm:l.length = m.length) (hl:l.length < 10000)
  (hs:∀ k i (h:i < l.length) (h':i < m.length),L (k + 1) (i:Int) = if (!(l[i] == m[i])) = true then some (.inr false) else L k (IntKind.wrap .i64 ((i:Int) + 1)))
  (he:∀ k,L (k + 1) (l.length:Int) = some (.inl ())):∀ k i,i ≤ l.length → l.length - i < k → L k (i:Int) = some (if l.drop i = m.drop i then .inl () else .inr false)
 | 0,i,_,h=>by omega
 | k + 1,i,h1,h2=>by
  by_cases h:i < l.length
  ·have h':i < m.length:=by omega
   rw [hs k i h h']
   simp only [eq_drop h h']
   by_cases e:l[i] = m[i]
   ·simp only [e,beq_self_eq_true,Bool.not_true,Bool.false_eq_true,if_false,true_and]
    rw [wrap_s i (by omega)]
    exact same_l l m hlm hl hs he k (i + 1) (by omega) (by omega)
   ·simp [e]
  ·have:i = l.length:=by omega
   subst this
   rw [he,List.drop_eq_nil_of_le (Nat.le_refl _),List.drop_eq_nil_of_le (by omega),if_pos rfl]
theorem ref02_Same_eq (n:Nat) (l m:List BS) (hl:l.length < 10000) (hn:100000 ≤ n):ref02_Same n l m = some (decide (l = m)):=by
 unfold ref02_Same
 by_cases hlm:l.length = m.length
 ·have e:((List.length l:Int) != (List.length m:Int)) = false:=by simp [hlm]
  have:=same_l (L:=ref02_Same_l1 n l m) l m hlm hl
   (fun k i h h'=>by rw [ref02_Same_l1,if_pos (lt_i h),if_pos (in_i h),if_pos (in_i h'),at_i h,at_i h'])
   (fun k=>by rw [ref02_Same_l1,nlt_n]; rfl) n 0 (by omega) (by omega)
  rw [e,if_neg Bool.false_ne_true,show (0:Int) = ((0:Nat):Int) from rfl,this,List.drop_zero,List.drop_zero]
  by_cases h:l = m
  ·rw [if_pos h,decide_eq_true h]; rfl
  ·rw [if_neg h,decide_eq_false h]; rfl
 ·have e:((List.length l:Int) != (List.length m:Int)) = true:=by simpa using fun h=>hlm (by omega)
  rw [e,if_pos rfl,decide_eq_false (fun h=>hlm (congrArg List.length h))]
def toM {α:Type} (kf:α → MK) (l:List α):List (MK × α):=l.map fun v=>(kf v,v)
def repl {α:Type} (kf:α → MK):List α → α → List α
 | [],_=>[]
 | u :: r,v=>if kf u = kf v then v :: r else u :: repl kf r v
theorem look_toM {α:Type} (kf:α → MK) (x:MK):∀ l:List α,mlook (toM kf l) x = l.find? fun v=>decide (kf v = x)
 | []=>rfl
 | u :: r=>by
  show (if kf u = x then some u else mlook (toM kf r) x) = _
  rw [List.find?_cons,look_toM kf x r]
  by_cases h:kf u = x
  ·rw [if_pos h,decide_eq_true h]
  ·rw [if_neg h,decide_eq_false h]
theorem put_new {α:Type} (kf:α → MK) (v:α):∀ l:List α,(l.find? fun u=>decide (kf u = kf v)) = none → mput (toM kf l) (kf v) v = toM kf (l ++ [v])
 | [],_=>rfl
 | u :: r,h=>by
  rw [List.find?_cons] at h
  by_cases hu:kf u = kf v
  ·rw [decide_eq_true hu] at h; cases h
  ·rw [decide_eq_false hu] at h
   show (if kf u = kf v then _ else (kf u,u) :: mput (toM kf r) (kf v) v) = _
   rw [if_neg hu,put_new kf v r h]; rfl
theorem put_old {α:Type} (kf:α → MK) (v:α):∀ l:List α,(l.find? fun u=>decide (kf u = kf v)).isSome = true → mput (toM kf l) (kf v) v = toM kf (repl kf l v)
 | [],h=>by cases h
 | u :: r,h=>by
  rw [List.find?_cons] at h
  by_cases hu:kf u = kf v
  ·show (if kf u = kf v then (kf v,v) :: toM kf r else _) = _
   rw [if_pos hu]; unfold repl; rw [if_pos hu]; rfl
  ·rw [decide_eq_false hu] at h
   show (if kf u = kf v then _ else (kf u,u) :: mput (toM kf r) (kf v) v) = _
   rw [if_neg hu,put_old kf v r h,show repl kf (u :: r) v = u :: repl kf r v from by rw [repl,if_neg hu]]; rfl
def dele {α:Type} (kf:α → MK) (x:MK):List α → List α
 | []=>[]
 | u :: r=>if kf u = x then r else u :: dele kf x r
theorem del_toM {α:Type} (kf:α → MK) (x:MK):∀ l:List α,mdel (toM kf l) x = toM kf (dele kf x l)
 | []=>rfl
 | u :: r=>by
  show (if kf u = x then toM kf r else (kf u,u) :: mdel (toM kf r) x) = _
  unfold dele
  by_cases h:kf u = x
  ·rw [if_pos h,if_pos h]
  ·rw [if_neg h,if_neg h,del_toM kf x r]; rfl
theorem len_toM {α:Type} (kf:α → MK) (l:List α):(toM kf l).length = l.length:=by simp [toM]
theorem dele_sub {α:Type} (kf:α → MK) (x:MK):∀ l:List α,(dele kf x l).Sublist l
 | []=>.slnil
 | u :: r=>by
  unfold dele
  split
  ·exact .cons _ (List.Sublist.refl _)
  ·exact (dele_sub kf x r).cons_cons u
theorem repl_mem {α:Type} (kf:α → MK) (v:α):∀ (l:List α) (x:α),x ∈ repl kf l v → x = v ∨ x ∈ l
 | [],x,h=>by simp [repl] at h
 | u :: r,x,h=>by
  unfold repl at h
  split at h
  ·rcases List.mem_cons.1 h with h | h
   ·exact .inl h
   ·exact .inr (List.mem_cons_of_mem _ h)
  ·rcases List.mem_cons.1 h with h | h
   ·exact .inr (by rw [h]; exact List.mem_cons_self)
   ·exact (repl_mem kf v r x h).imp id fun h=>List.mem_cons_of_mem _ h
theorem repl_map {α β:Type} (kf:α → MK) (v:α) (f:α → β):∀ (l:List α),(∀ u ∈ l,kf u = kf v → f u = f v) → (repl kf l v).map f = l.map f
 | [],_=>rfl
 | u :: r,h=>by
  unfold repl
  split
  ·rename_i hu
   rw [List.map_cons,List.map_cons,h u List.mem_cons_self hu]
  ·rw [List.map_cons,List.map_cons,repl_map kf v f r fun x hx=>h x (List.mem_cons_of_mem _ hx)]
theorem find_key {α:Type} (kf:α → MK) {l:List α} (hn:(l.map kf).Nodup) {v:α} (hv:v ∈ l):(l.find? fun u=>decide (kf u = kf v)) = some v:=by
 induction l with
 | nil=>cases hv
 | cons u r ih =>
  rw [List.find?_cons]
  by_cases hu:kf u = kf v
  ·rw [decide_eq_true hu]
   rcases List.mem_cons.1 hv with rfl | hv
   ·rfl
   ·rw [List.map_cons,List.nodup_cons] at hn
    exact absurd (hu ▸ List.mem_map_of_mem hv) hn.1
  ·rw [decide_eq_false hu]
   rcases List.mem_cons.1 hv with rfl | hv
   ·exact absurd rfl hu
   ·rw [List.map_cons,List.nodup_cons] at hn
    exact ih hn.2 hv
theorem find_none {α:Type} (kf:α → MK) {l:List α} {x:MK} (h:x ∉ l.map kf):(l.find? fun u=>decide (kf u = x)) = none:=by
 rw [List.find?_eq_none]
 intro u hu hd
 exact h (by rw [← of_decide_eq_true hd]; exact List.mem_map_of_mem hu)
theorem roundAll_any {β X:Type} [DecidableEq X] (round:β → Option (Unit ⊕ X)) (p:β → Bool) (x:X):∀ l:List β,(∀ e ∈ l,round e = some (if p e = true then .inr x else .inl ())) → roundAll round l = some (if l.any p = true then .inr x else .inl ())
 | [],_=>rfl
 | e :: l,h=>by
  unfold roundAll
  rw [h e List.mem_cons_self,Option.bind_some,roundAll_any round p x l fun e he=>h e (List.mem_cons_of_mem _ he),Option.bind_some,List.any_cons]
  cases p e <;> cases l.any p <;> simp
abbrev kI:S_life_Box → MK:=fun b=>.inr b.f_Id
abbrev kN:S_api_Kept → MK:=fun k=>.inl k.f_Name
def mkS (bs:List S_life_Box) (ns vs:List S_api_Kept) (last:Int):S_store_Store:=⟨toM kI bs,toM kN ns,toM kN vs,last⟩
def seenB (b:S_life_Box):S_api_Container:=⟨b.f_Id,b.f_Spec,b.f_State,b.f_Code,if (b.f_State == 2) = true then b.f_Probe.f_Health else 0,b.f_Runs⟩
theorem seen_eq (b:S_life_Box):life_Seen b = seenB b:=by
 unfold life_Seen life_Seen_j1 seenB lett
 by_cases h:(b.f_State == 2) = true
 ·rw [if_pos h,if_pos h]
 ·rw [if_neg h,if_neg h]
theorem clone_eq (n:Nat) (l:List BS) (h:l.length ≤ 1000000):slices_Clone_string_string n l = some l:=by
 unfold slices_Clone_string_string
 rw [if_pos (cap_add (by simp; omega))]; rfl
theorem index_eq (n:Nat) (l:List BS) (x:BS) (hl:l.length < 90000) (hn:100000 ≤ n):slices_Index_string_string n l x = some (match l.findIdx? (· == x) with | some i=>(i:Int) | none=>-1):=by
 unfold slices_Index_string_string
 have:=scanI (L:=slices_Index_string_string_l1 n l x (List.length l:Int) ) l (fun i y=>if (x == y) = true then some (i:Int) else none) 0 (by omega)
  (fun k i h _=>by
   rw [slices_Index_string_string_l1,if_pos (lt_i h),if_pos (in_i h),at_i h]
   cases hc:(x == l[i]) <;> simp)
  (fun k=>by rw [slices_Index_string_string_l1,nlt_n]; rfl) n 0 (by omega) (by omega) (by omega)
 have this:slices_Index_string_string_l1 n l x (List.length l:Int) n 0 = _:=this
 rw [this,List.drop_zero]
 have key:∀ (l:List BS) (i:Nat),findI (fun i y=>if (x == y) = true then some (i:Int) else none) i l = (l.findIdx? (· == x)).map fun j=>((i + j:Nat):Int):=by
  intro l
  induction l with
  | nil=>intro i; rfl
  | cons y l ih =>
   intro i
   unfold findI
   rw [List.findIdx?_cons]
   have hxy:(x == y) = (y == x):=by rw [Bool.eq_iff_iff,beq_iff_eq,beq_iff_eq,eq_comm]
   rw [hxy]
   cases hc:(y == x) with
   | true=>simp
   | false =>
    simp only [Bool.false_eq_true,if_false,ih (i + 1),Option.map_map]
    congr 1
    funext j
    simp only [Function.comp]
    omega
 rw [key]
 cases l.findIdx? (· == x) <;> simp [Option.bind]
theorem in_eq (n:Nat) (l:List BS) (x:BS) (hl:l.length < 90000) (hn:100000 ≤ n):name_In n l x = some (l.contains x):=by
 unfold name_In slices_Contains_string_string
 rw [index_eq n l x hl hn,Option.bind_some,Option.bind_some]
 congr 1
 cases h:l.findIdx? (· == x) with
 | some i =>
  simp only
  rw [List.findIdx?_eq_some_iff_getElem] at h
  obtain ⟨hi,h1,_⟩:=h
  have:l.contains x = true:=by
   rw [List.contains_iff_mem]
   rw [← (beq_iff_eq.1 h1)]; exact List.getElem_mem hi
  rw [this]; simp
 | none =>
  simp only
  rw [List.findIdx?_eq_none_iff] at h
  have:l.contains x = false:=by
   rw [← Bool.not_eq_true,List.contains_iff_mem]
   intro hm
   have:=h x hm
   simp at this
  rw [this]; rfl
theorem has_eq (n:Nat) (l:List BS) (m:List (MK × S_api_Kept)) (hl:l.length < 90000) (hn:100000 ≤ n):store_shelf_has__m0 n l m = some (l.all fun s=>(mlook m (.inl s)).isSome,m):=by
 unfold store_shelf_has__m0 slices_ContainsFunc_string_string__store_shelf_has_1_o0 slices_IndexFunc_string_string__store_shelf_has_1_o0
 have key:∀ (k i:Nat),i ≤ l.length → l.length - i < k → slices_IndexFunc_string_string__store_shelf_has_1_o0_l1 n l (List.length l:Int) k (i:Int) m =
   some (match (l.drop i).findIdx? (fun s=>!(mlook m (.inl s)).isSome) with | some j=>.inr (((i + j:Nat):Int),m) | none=>.inl m):=by
  intro k
  induction k with
  | zero=>intro i _ h; omega
  | succ k ih =>
   intro i h1 h2
   rw [slices_IndexFunc_string_string__store_shelf_has_1_o0_l1]
   by_cases h:i < l.length
   ·rw [if_pos (lt_i h),if_pos (in_i h),at_i h,drop_at h,List.findIdx?_cons]
    unfold store_shelf_has_1__o0
    simp only [lett]
    cases hc:(!(mlook m (.inl l[i])).isSome) with
    | true=>simp
    | false =>
     simp only [Bool.false_eq_true,if_false]
     rw [wrap_s i (by omega),ih (i + 1) (by omega) (by omega)]
     cases (l.drop (i + 1)).findIdx? _ with
     | none=>rfl
     | some j=>simp; omega
   ·have:i = l.length:=by omega
    subst this
    rw [nlt_n,List.drop_eq_nil_of_le (Nat.le_refl _)]; rfl
 have:=key n 0 (by omega) (by omega)
 have this:slices_IndexFunc_string_string__store_shelf_has_1_o0_l1 n l (List.length l:Int) n 0 m = _:=this
 rw [this,List.drop_zero,Option.bind_some]
 cases h:l.findIdx? (fun s=>!(mlook m (.inl s)).isSome) with
 | some i =>
  rw [List.findIdx?_eq_some_iff_getElem] at h
  obtain ⟨hi,h1,_⟩:=h
  have:(l.all fun s=>(mlook m (.inl s)).isSome) = false:=by
   rw [← Bool.not_eq_true,List.all_eq_true]
   intro hall
   have:=hall _ (List.getElem_mem hi)
   rw [this] at h1; cases h1
  rw [this]
  simp [Option.bind]
 | none =>
  rw [List.findIdx?_eq_none_iff] at h
  have:(l.all fun s=>(mlook m (.inl s)).isSome) = true:=by
   rw [List.all_eq_true]
   intro s hs
   simpa using h s hs
  rw [this]
  simp [Option.bind]
theorem has_toM (n:Nat) (l:List BS) (ns:List S_api_Kept) (hl:l.length < 90000) (hn:100000 ≤ n):store_shelf_has__m0 n l (toM kN ns) = some (l.all fun s=>(ns.map (·.f_Name)).contains s,toM kN ns):=by
 rw [has_eq n l _ hl hn]
 have:(fun s:BS=>(mlook (toM kN ns) (.inl s)).isSome) = fun s=>(ns.map (·.f_Name)).contains s:=by
  funext s
  rw [look_toM,Bool.eq_iff_iff,List.find?_isSome,List.contains_iff_mem]
  simp [kN]
 rw [this]
abbrev nms (l:List S_api_Kept):List BS:=l.map (·.f_Name)
def putP (c:S_api_Call) (l:List S_api_Kept):Int × List S_api_Kept :=
 if c.f_Name = [] ∨ 64 < c.f_Name.length then (2,l) else if (nms l).contains c.f_Name = true then (11,l) else if 32 ≤ l.length then (14,l) else (0,l ++ [⟨c.f_Name,c.f_Spec.f_Project⟩])
theorem look_nms (l:List S_api_Kept) (s:BS):(mlook (toM kN l) (.inl s)).isSome = (nms l).contains s:=by
 rw [look_toM,Bool.eq_iff_iff,List.find?_isSome,List.contains_iff_mem]
 simp [kN]
theorem put_eq (c:S_api_Call) (l:List S_api_Kept):store_put__m0 c (toM kN l) = ((putP c l).1,toM kN (putP c l).2):=by
 unfold store_put__m0 putP
 rw [look_nms,len_toM]
 have e1:(bif c.f_Name == [] then true else decide ((List.length c.f_Name:Int) > 64)) = decide (c.f_Name = [] ∨ 64 < c.f_Name.length):=by
  rw [Bool.eq_iff_iff]
  simp only [Bool.cond_true_left,Bool.or_eq_true,decide_eq_true_eq,beq_iff_eq]
  constructor <;> rintro (h | h) <;> first | exact .inl h | (right; omega)
 rw [e1]
 by_cases h1:c.f_Name = [] ∨ 64 < c.f_Name.length
 ·rw [if_pos (decide_eq_true h1),if_pos h1]
 ·rw [if_neg (by simpa using h1),if_neg h1]
  by_cases h2:(nms l).contains c.f_Name = true
  ·rw [if_pos h2,if_pos h2]
  ·rw [if_neg h2,if_neg h2]
   by_cases h3:32 ≤ l.length
   ·rw [if_pos (by simp; omega),if_pos h3]
   ·rw [if_neg (by simp; omega),if_neg h3]
    have:=put_new kN (⟨c.f_Name,c.f_Spec.f_Project⟩:S_api_Kept) l (find_none kN (by
     rw [List.contains_iff_mem] at h2
     intro h; apply h2
     obtain ⟨k,h4,h5⟩:=List.mem_map.1 h
     simp only [kN,Sum.inl.injEq] at h5
     exact List.mem_map.2 ⟨k,h4,h5⟩))
    rw [← this]
def dropP (named:S_api_Spec → List BS) (bs:List S_life_Box) (s:BS) (l:List S_api_Kept):Int × List S_api_Kept :=
 if (nms l).contains s = false then (12,l) else if (bs.any fun b=>(named b.f_Spec).contains s) = true then (17,l) else (0,dele kN (.inl s) l)
theorem drop_any (n:Nat) (named:S_api_Spec → List BS) (s:BS) (bs:List S_life_Box) (round:MK × S_life_Box → Option (Unit ⊕ Int)) (hr:∀ x,round x = (name_In n (named x.2.f_Spec) s).bind fun r2=>if r2 = true then some (.inr 17) else some (.inl ())) (hb:∀ b ∈ bs,(named b.f_Spec).length < 90000) (hn:100000 ≤ n) :
  roundAll round (toM kI bs) = some (if (bs.any fun b=>(named b.f_Spec).contains s) = true then .inr 17 else .inl ()):=by
 rw [roundAll_any round (fun x=>(named x.2.f_Spec).contains s) 17 (toM kI bs)]
 ·congr 2
  simp [toM,List.any_map,Function.comp_def]
 ·intro e he
  obtain ⟨b,h1,rfl⟩:=List.mem_map.1 he
  rw [hr,in_eq n _ s (hb b h1) hn,Option.bind_some]
  cases (named b.f_Spec).contains s <;> rfl
theorem dropN_eq (n:Nat) (s:BS) (bs:List S_life_Box) (ns vs:List S_api_Kept) (last:Int) (hb:∀ b ∈ bs,b.f_Spec.f_Nets.length < 90000) (hn:100000 ≤ n) :
  store_Store_drop__o0__m0n61__store_Store_Do_1 n s (mkS bs ns vs last) = some ((dropP (·.f_Nets) bs s ns).1,mkS bs (dropP (·.f_Nets) bs s ns).2 vs last):=by
 unfold store_Store_drop__o0__m0n61__store_Store_Do_1 dropP
 show (if (!((mlook (toM kN ns) (.inl s)).isSome)) = true then _ else (roundAll _ (toM kI bs)).bind _) = _
 rw [look_nms]
 cases h1:(nms ns).contains s with
 | false=>rw [if_pos (by rfl),if_pos rfl]
 | true =>
  rw [if_neg (by decide),if_neg (by decide),drop_any n (·.f_Nets) s bs (store_Store_drop__o0__m0n61__store_Store_Do_1_m1 n s (mkS bs ns vs last)) (fun x=>rfl) hb hn,Option.bind_some]
  cases h2:bs.any fun b=>b.f_Spec.f_Nets.contains s with
  | true=>simp [mkS]
  | false =>
   simp only [Bool.false_eq_true,if_false,Sum.elim_inl]
   show some ((0:Int),(S_store_Store.mk (toM kI bs) (mdel (toM kN ns) (.inl s)) (toM kN vs) last)) = _
   rw [del_toM]; rfl
theorem dropV_eq (n:Nat) (s:BS) (bs:List S_life_Box) (ns vs:List S_api_Kept) (last:Int) (hb:∀ b ∈ bs,b.f_Spec.f_Vols.length < 90000) (hn:100000 ≤ n) :
  store_Store_drop__o0__m0n62__store_Store_Do_2 n s (mkS bs ns vs last) = some ((dropP (·.f_Vols) bs s vs).1,mkS bs ns (dropP (·.f_Vols) bs s vs).2 last):=by
 unfold store_Store_drop__o0__m0n62__store_Store_Do_2 dropP
 show (if (!((mlook (toM kN vs) (.inl s)).isSome)) = true then _ else (roundAll _ (toM kI bs)).bind _) = _
 rw [look_nms]
 cases h1:(nms vs).contains s with
 | false=>rw [if_pos (by rfl),if_pos rfl]
 | true =>
  rw [if_neg (by decide),if_neg (by decide),drop_any n (·.f_Vols) s bs (store_Store_drop__o0__m0n62__store_Store_Do_2_m1 n s (mkS bs ns vs last)) (fun x=>rfl) hb hn,Option.bind_some]
  cases h2:bs.any fun b=>b.f_Spec.f_Vols.contains s with
  | true=>simp [mkS]
  | false =>
   simp only [Bool.false_eq_true,if_false,Sum.elim_inl]
   show some ((0:Int),(S_store_Store.mk (toM kI bs) (toM kN ns) (mdel (toM kN vs) (.inl s)) last)) = _
   rw [del_toM]; rfl
structure PS where
 bs:List S_life_Box
 ns:List S_api_Kept
 vs:List S_api_Kept
 last:Int
abbrev PS.toS (p:PS):S_store_Store:=mkS p.bs p.ns p.vs p.last
def makeP (sp:S_api_Spec) (p:PS):Int × Int × PS :=
 if sp.f_Name = [] ∨ 128 < sp.f_Name.length then (0,2,p) else
 if (p.bs.any fun b=>b.f_Spec.f_Name == sp.f_Name) = true then (0,11,p) else
 if ((sp.f_Nets.all fun s=>(nms p.ns).contains s) && (sp.f_Vols.all fun s=>(nms p.vs).contains s)) = false then (0,12,p) else
 if 64 ≤ p.bs.length then (0,14,p) else (p.last + 1,0,⟨p.bs ++ [life_New (p.last + 1) sp],p.ns,p.vs,p.last + 1⟩)
theorem wrap_last {x:Int} (h0:0 ≤ x) (h1:x ≤ 1000):IntKind.wrap .i64 (x + 1) = x + 1:=by
 obtain ⟨m,rfl⟩:=Int.eq_ofNat_of_zero_le h0
 rw [wrap_s m (by omega)]; rfl
theorem make_eq (n:Nat) (sp:S_api_Spec) (p:PS) (h0:0 ≤ p.last) (h1:p.last ≤ 1000) (hb:∀ b ∈ p.bs,b.f_Id ≤ p.last) (hn1:sp.f_Nets.length ≤ 10) (hn2:sp.f_Vols.length ≤ 10) (hn:100000 ≤ n) :
  store_Store_make__o0 n sp p.toS = some ((makeP sp p).1,(makeP sp p).2.1,(makeP sp p).2.2.toS):=by
 unfold store_Store_make__o0 makeP
 have e1:(bif sp.f_Name == [] then true else decide ((List.length sp.f_Name:Int) > 128)) = decide (sp.f_Name = [] ∨ 128 < sp.f_Name.length):=by
  rw [Bool.eq_iff_iff]
  simp only [Bool.cond_true_left,Bool.or_eq_true,decide_eq_true_eq,beq_iff_eq]
  constructor <;> rintro (h | h) <;> first | exact .inl h | (right; omega)
 rw [e1]
 by_cases c1:sp.f_Name = [] ∨ 128 < sp.f_Name.length
 ·rw [if_pos (decide_eq_true c1),if_pos c1]
 rw [if_neg (by simpa using c1),if_neg c1]
 have hr:roundAll (store_Store_make__o0_m1 n sp p.toS) p.toS.f_boxes = some (if (p.bs.any fun b=>b.f_Spec.f_Name == sp.f_Name) = true then .inr (0,11) else .inl ()):=by
  show roundAll (store_Store_make__o0_m1 n sp p.toS) (toM kI p.bs) = _
  rw [roundAll_any (store_Store_make__o0_m1 n sp p.toS) (fun x=>x.2.f_Spec.f_Name == sp.f_Name) (0,11) (toM kI p.bs)]
  ·congr 2
   simp [toM,List.any_map,Function.comp_def]
  ·intro e _
   unfold store_Store_make__o0_m1
   split <;> rfl
 rw [hr,Option.bind_some]
 by_cases c2:(p.bs.any fun b=>b.f_Spec.f_Name == sp.f_Name) = true
 ·rw [if_pos c2,if_pos c2]; rfl
 rw [if_neg c2,if_neg c2]
 show (store_shelf_has__m0 n sp.f_Nets (toM kN p.ns)).bind _ = _
 rw [has_toM n _ _ (by omega) hn,Option.bind_some]
 cases c3:sp.f_Nets.all fun s=>(nms p.ns).contains s with
 | false=>rfl
 | true =>
  show (store_shelf_has__m0 n sp.f_Vols (toM kN p.vs)).bind _ = _
  rw [has_toM n _ _ (by omega) hn,Option.bind_some]
  cases c4:sp.f_Vols.all fun s=>(nms p.vs).contains s with
  | false=>rfl
  | true =>
   rw [if_neg (by simp),if_neg (show ¬ (true && true) = false by decide)]
   show (if decide ((List.length (toM kI p.bs):Int) ≥ 64) = true then _ else _) = _
   rw [len_toM]
   by_cases c5:64 ≤ p.bs.length
   ·rw [if_pos (by simp; omega),if_pos c5]; rfl
   ·rw [if_neg (by simp; omega),if_neg c5,clone_eq n _ (by omega),Option.bind_some,clone_eq n _ (by omega),Option.bind_some]
    show some (IntKind.wrap .i64 (p.last + 1),(0:Int),S_store_Store.mk (mput (toM kI p.bs) (.inr (IntKind.wrap .i64 (p.last + 1))) (life_New (IntKind.wrap .i64 (p.last + 1)) sp)) _ _ (IntKind.wrap .i64 (p.last + 1))) = _
    rw [wrap_last h0 h1,show mput (toM kI p.bs) (.inr (p.last + 1)) (life_New (p.last + 1) sp) = toM kI (p.bs ++ [life_New (p.last + 1) sp]) from put_new kI (life_New (p.last + 1) sp) p.bs (find_none kI (by
     intro h
     obtain ⟨b,h4,h5⟩:=List.mem_map.1 h
     have:=hb b h4
     simp only [kI,life_New,Sum.inr.injEq] at h5
     omega))]
    rfl
theorem start_id (b:S_life_Box) (now:Int):(life_Start b now).1.f_Id = b.f_Id ∧ (life_Start b now).1.f_Spec = b.f_Spec:=by
 unfold life_Start lett
 split
 ·exact ⟨rfl,rfl⟩
 ·exact ⟨rfl,rfl⟩
theorem stop_id (b:S_life_Box):(life_Stop b).1.f_Id = b.f_Id ∧ (life_Stop b).1.f_Spec = b.f_Spec:=by
 unfold life_Stop life_Stop_j1 lett
 split
 ·exact ⟨rfl,rfl⟩
 ·split <;> exact ⟨rfl,rfl⟩
def setP (id:Int) (p:PS) (r:S_life_Box × Int):Int × Int × PS :=
 if r.2 ≠ 0 then (0,r.2,p) else (id,0,⟨repl kI p.bs r.1,p.ns,p.vs,p.last⟩)
def changeP (c:S_api_Call) (now:Int) (p:PS):Int × Int × PS :=
 match p.bs.find? fun b=>decide (kI b = .inr c.f_Id) with
 | none=>(0,12,p)
 | some b =>
  if c.f_Kind = 6 then setP c.f_Id p (life_Start b now) else
  if c.f_Kind = 7 then setP c.f_Id p (life_Stop b) else
  if b.f_State = 2 then (0,13,p) else (c.f_Id,0,⟨dele kI (.inr c.f_Id) p.bs,p.ns,p.vs,p.last⟩)
theorem put_set (id:Int) (p:PS) (b v:S_life_Box) (hf:(p.bs.find? fun b=>decide (kI b = .inr id)) = some b) (hv:v.f_Id = b.f_Id) :
  S_store_Store.mk (mput (toM kI p.bs) (.inr id) v) (toM kN p.ns) (toM kN p.vs) p.last = mkS (repl kI p.bs v) p.ns p.vs p.last:=by
 have hk:kI b = .inr id:=of_decide_eq_true (List.find?_some (p:=fun b=>decide (kI b = .inr id)) hf)
 have hk2:(Sum.inr id:MK) = kI v:=by rw [← hk]; simp only [kI,hv]
 rw [hk2] at hf
 rw [hk2,put_old kI v p.bs (by rw [hf]; rfl)]; rfl
theorem change_eq (c:S_api_Call) (now:Int) (p:PS):store_Store_change__o0 c now p.toS = ((changeP c now p).1,(changeP c now p).2.1,(changeP c now p).2.2.toS):=by
 unfold store_Store_change__o0 changeP
 have e:mlook p.toS.f_boxes (.inr c.f_Id) = p.bs.find? fun b=>decide (kI b = .inr c.f_Id):=look_toM kI _ p.bs
 rw [e]
 cases hf:p.bs.find? fun b=>decide (kI b = .inr c.f_Id) with
 | none=>rfl
 | some b =>
  rw [if_neg (by simp)]
  show lett (store_Store_change__o0_j1 now c.f_Kind c b p.toS) _ = _
  unfold store_Store_change__o0_j1
  by_cases k6:c.f_Kind = 6
  ·rw [if_pos (by simpa using k6)]
   simp only [lett,Sum.elim_inl]
   rw [if_pos k6]
   unfold setP
   by_cases r:(life_Start b now).2 = 0
   ·rw [if_neg (by simp [r]),if_neg (by simp [r])]
    show (c.f_Id,(0:Int),S_store_Store.mk (mput (toM kI p.bs) (.inr c.f_Id) (life_Start b now).1) (toM kN p.ns) (toM kN p.vs) p.last) = _
    rw [put_set c.f_Id p b _ hf (start_id b now).1]
   ·rw [if_pos (by simpa using r),if_pos r]
  ·rw [if_neg (by simpa using k6)]
   by_cases k7:c.f_Kind = 7
   ·rw [if_pos (by simpa using k7)]
    simp only [lett,Sum.elim_inl]
    rw [if_neg k6,if_pos k7]
    unfold setP
    by_cases r:(life_Stop b).2 = 0
    ·rw [if_neg (by simp [r]),if_neg (by simp [r])]
     show (c.f_Id,(0:Int),S_store_Store.mk (mput (toM kI p.bs) (.inr c.f_Id) (life_Stop b).1) (toM kN p.ns) (toM kN p.vs) p.last) = _
     rw [put_set c.f_Id p b _ hf (stop_id b).1]
    ·rw [if_pos (by simpa using r),if_pos r]
   ·rw [if_neg (by simpa using k7)]
    by_cases s2:b.f_State = 2
    ·rw [if_pos (by simpa using s2)]
     simp only [lett,Sum.elim_inr]
     rw [if_neg k6,if_neg k7,if_pos s2]
    ·rw [if_neg (by simpa using s2)]
     simp only [lett,Sum.elim_inr]
     rw [if_neg k6,if_neg k7,if_neg s2]
     show (c.f_Id,(0:Int),S_store_Store.mk (mdel (toM kI p.bs) (.inr c.f_Id)) (toM kN p.ns) (toM kN p.vs) p.last) = _
     rw [del_toM]; rfl
def stepP (c:S_api_Call) (now:Int) (p:PS):Int × Int × PS :=
 if c.f_Kind = 1 then (0,(putP c p.ns).1,⟨p.bs,(putP c p.ns).2,p.vs,p.last⟩) else
 if c.f_Kind = 2 then (0,(putP c p.vs).1,⟨p.bs,p.ns,(putP c p.vs).2,p.last⟩) else
 if c.f_Kind = 3 then (0,(dropP (·.f_Nets) p.bs c.f_Name p.ns).1,⟨p.bs,(dropP (·.f_Nets) p.bs c.f_Name p.ns).2,p.vs,p.last⟩) else
 if c.f_Kind = 4 then (0,(dropP (·.f_Vols) p.bs c.f_Name p.vs).1,⟨p.bs,p.ns,(dropP (·.f_Vols) p.bs c.f_Name p.vs).2,p.last⟩) else
 if c.f_Kind = 5 then makeP c.f_Spec p else
 if c.f_Kind = 6 ∨ c.f_Kind = 7 ∨ c.f_Kind = 8 then changeP c now p else (0,2,p)
structure Inv (k:Nat) (p:PS):Prop where
 asc:(p.bs.map (·.f_Id)).Pairwise (· < ·)
 ids:∀ b ∈ p.bs,1 ≤ b.f_Id ∧ b.f_Id ≤ p.last
 last0:0 ≤ p.last
 lastk:p.last ≤ k
 boxes:p.bs.length ≤ 64
 nets:p.ns.length ≤ 32
 vols:p.vs.length ≤ 32
 nnod:(nms p.ns).Nodup
 vnod:(nms p.vs).Nodup
 nlen:∀ x ∈ p.ns,x.f_Name.length ≤ 64
 vlen:∀ x ∈ p.vs,x.f_Name.length ≤ 64
 bnod:(p.bs.map (·.f_Spec.f_Name)).Nodup
 few:∀ b ∈ p.bs,b.f_Spec.f_Nets.length ≤ 10 ∧ b.f_Spec.f_Vols.length ≤ 10
 nin:∀ b ∈ p.bs,∀ s ∈ b.f_Spec.f_Nets,s ∈ nms p.ns
 vin:∀ b ∈ p.bs,∀ s ∈ b.f_Spec.f_Vols,s ∈ nms p.vs
theorem Do_eq (n:Nat) (c:S_api_Call) (now:Int) {k:Nat} {p:PS} (hi:Inv k p) (hk:k ≤ 1000) (h1:c.f_Spec.f_Nets.length ≤ 10) (h2:c.f_Spec.f_Vols.length ≤ 10) (hn:100000 ≤ n) :
  store_Store_Do__o0 n c now p.toS = some ((stepP c now p).1,(stepP c now p).2.1,(stepP c now p).2.2.toS):=by
 unfold store_Store_Do__o0 store_Store_Do__o0_j1 stepP
 by_cases k1:c.f_Kind = 1
 ·rw [if_pos (by simpa using k1),if_pos k1,show p.toS.f_nets = toM kN p.ns from rfl,put_eq]; rfl
 rw [if_neg (by simpa using k1),if_neg k1]
 by_cases k2:c.f_Kind = 2
 ·rw [if_pos (by simpa using k2),if_pos k2,show p.toS.f_vols = toM kN p.vs from rfl,put_eq]; rfl
 rw [if_neg (by simpa using k2),if_neg k2]
 by_cases k3:c.f_Kind = 3
 ·rw [if_pos (by simpa using k3),if_pos k3,dropN_eq n _ _ _ _ _ (fun b hb=>by have:=hi.few b hb; omega) hn]; rfl
 rw [if_neg (by simpa using k3),if_neg k3]
 by_cases k4:c.f_Kind = 4
 ·rw [if_pos (by simpa using k4),if_pos k4,dropV_eq n _ _ _ _ _ (fun b hb=>by have:=hi.few b hb; omega) hn]; rfl
 rw [if_neg (by simpa using k4),if_neg k4]
 by_cases k5:c.f_Kind = 5
 ·rw [if_pos (by simpa using k5),if_pos k5,make_eq n _ _ hi.last0 (by have:=hi.lastk; omega) (fun b hb=>(hi.ids b hb).2) h1 h2 hn]; rfl
 rw [if_neg (by simpa using k5),if_neg k5]
 have ej:store_Store_Do__o0_j2 n now c.f_Kind (c.f_Kind == 6) c p.toS = some (decide (c.f_Kind = 6 ∨ c.f_Kind = 7 ∨ c.f_Kind = 8)):=by
  unfold store_Store_Do__o0_j2
  by_cases k6:c.f_Kind = 6
  ·rw [if_pos (by simpa using k6)]; simp [k6]
  rw [if_neg (by simpa using k6)]
  by_cases k7:c.f_Kind = 7
  ·rw [if_pos (by simpa using k7)]; simp [k7]
  rw [if_neg (by simpa using k7)]
  congr 1
  rw [Bool.eq_iff_iff]; simp [k6,k7]
 rw [ej,Option.bind_some]
 by_cases k6:c.f_Kind = 6 ∨ c.f_Kind = 7 ∨ c.f_Kind = 8
 ·rw [if_pos (decide_eq_true k6),if_pos k6,change_eq]; rfl
 ·rw [if_neg (by simpa using k6),if_neg k6]; rfl
theorem Inv.idnod {k:Nat} {p:PS} (h:Inv k p):(p.bs.map kI).Nodup:=by
 have:=h.asc.imp (S:=fun x y=>x ≠ y) fun h=>by omega
 have e:p.bs.map kI = (p.bs.map (·.f_Id)).map (Sum.inr:Int → MK):=by rw [List.map_map]; rfl
 rw [e]
 exact this.map _ fun a b h h'=>h (Sum.inr.inj h')
theorem Boxes_eq (n:Nat) {k:Nat} {p:PS} (h:Inv k p) (hk:k ≤ 1000) (hn:100000 ≤ n):store_Store_Boxes__o0 n p.toS = some (p.bs.map seenB,p.toS):=by
 unfold store_Store_Boxes__o0
 have ok:keysOkI p.toS.f_boxes = true:=by
  show keysOkI (toM kI p.bs) = true
  unfold keysOkI
  rw [len_toM,decide_eq_true (show p.bs.length * 17 ≤ limit by have:=h.boxes; show _ ≤ 140737488355328; omega),Bool.true_and,List.all_eq_true]
  intro x hx
  obtain ⟨b,h1,rfl⟩:=List.mem_map.1 hx
  have:=h.ids b h1
  have:=h.lastk
  exact decide_eq_true (by show _ ≤ b.f_Id ∧ b.f_Id ≤ _; omega)
 have ek:keysI p.toS.f_boxes = p.bs.map (·.f_Id):=by
  show keysI (toM kI p.bs) = _
  unfold keysI
  have e:(toM kI p.bs).map (fun p=>keyInt p.1) = p.bs.map (·.f_Id):=by simp [toM,Function.comp_def,keyInt,kI]
  rw [e]
  exact List.mergeSort_of_pairwise (h.asc.imp fun h=>decide_eq_true (by omega))
 rw [if_pos ok,ek]
 have hl:(p.bs.map (·.f_Id)).length = p.bs.length:=by simp
 have hb:=h.boxes
 have:=gather (L:=store_Store_Boxes__o0_l1 n (p.bs.map (·.f_Id)) (List.length (p.bs.map (·.f_Id)):Int) p.toS) p.bs (fun acc b=>acc ++ [seenB b]) id (fun i s=>s.length = i) (by omega)
  (fun k s i hi hs=>by
   have hid:(p.bs.map (·.f_Id))[Int.toNat (i:Int)]?.getD 0 = p.bs[i].f_Id:=by rw [at_i (by simpa using hi)]; simp
   have hlk:mlook p.toS.f_boxes (.inr p.bs[i].f_Id) = some p.bs[i]:=(look_toM kI _ p.bs).trans (find_key kI h.idnod (List.getElem_mem hi))
   rw [store_Store_Boxes__o0_l1,if_pos (lt_i (by simpa using hi)),if_pos (in_i (by simpa using hi)),hid,hlk]
   show lett (life_Seen p.bs[i]) _ = _
   have hf:=h.few _ (List.getElem_mem hi)
   rw [seen_eq]
   simp only [lett]
   rw [clone_eq n _ (show (seenB p.bs[i]).f_Spec.f_Nets.length ≤ 1000000 by show p.bs[i].f_Spec.f_Nets.length ≤ _; omega),Option.bind_some,clone_eq n _ (show (seenB p.bs[i]).f_Spec.f_Vols.length ≤ 1000000 by show p.bs[i].f_Spec.f_Vols.length ≤ _; omega),Option.bind_some,if_pos (fitsM (by simp only [List.length_cons,List.length_nil]; omega))])
  (fun s i h hi=>by simp [hi])
  (fun k s hi=>by rw [store_Store_Boxes__o0_l1,hl,nlt_n]; rfl) n 0 [] (by omega) (by omega) rfl
 have this:store_Store_Boxes__o0_l1 n (p.bs.map (·.f_Id)) (List.length (p.bs.map (·.f_Id)):Int) p.toS n [] 0 = _:=this.1
 rw [this,List.drop_zero,foldl_app (fun b=>[seenB b])]
 simp [← List.map_eq_flatMap]
theorem Inv.up {k:Nat} {p:PS} (h:Inv k p):Inv (k + 1) p:={ h with lastk:=by have:=h.lastk; omega }
theorem putP_facts (c:S_api_Call) {l:List S_api_Kept} (h1:l.length ≤ 32) (h2:(nms l).Nodup) (h3:∀ x ∈ l,x.f_Name.length ≤ 64) :
  (putP c l).2.length ≤ 32 ∧ (nms (putP c l).2).Nodup ∧ (∀ x ∈ (putP c l).2,x.f_Name.length ≤ 64) ∧ (∀ s ∈ nms l,s ∈ nms (putP c l).2) ∧ ((putP c l).1 ≠ 0 → (putP c l).2 = l):=by
 unfold putP
 split
 ·exact ⟨h1,h2,h3,fun s h=>h,fun _=>rfl⟩
 split
 ·exact ⟨h1,h2,h3,fun s h=>h,fun _=>rfl⟩
 split
 ·exact ⟨h1,h2,h3,fun s h=>h,fun _=>rfl⟩
 rename_i a1 a2 a3
 refine ⟨by simp; omega,?_,?_,?_,fun h=>absurd rfl h⟩
 ·show (nms (l ++ [_])).Nodup
  rw [nms,List.map_append,List.nodup_append]
  refine ⟨h2,by simp,?_⟩
  intro a ha b hb
  simp only [List.map_cons,List.map_nil,List.mem_singleton] at hb
  subst hb
  rintro rfl
  exact a2 (List.contains_iff_mem.2 ha)
 ·intro x hx
  rcases List.mem_append.1 hx with hx | hx
  ·exact h3 x hx
  ·rw [List.mem_singleton.1 hx]
   show c.f_Name.length ≤ 64
   rw [not_or] at a1; omega
 ·intro s hs
  show s ∈ nms (l ++ [_])
  rw [nms,List.map_append]
  exact List.mem_append_left _ hs
theorem dele_names {s:BS}:∀ {l:List S_api_Kept} {x:BS},x ∈ nms l → x ≠ s → x ∈ nms (dele kN (.inl s) l)
 | [],_,h,_=>h
 | u :: r,x,h,hx=>by
  unfold dele
  by_cases hu:kN u = .inl s
  ·rw [if_pos hu]
   rcases List.mem_cons.1 h with h | h
   ·exact absurd (h.trans (Sum.inl.inj hu)) hx
   ·exact h
  ·rw [if_neg hu]
   rcases List.mem_cons.1 h with h | h
   ·exact List.mem_cons.2 (.inl h)
   ·exact List.mem_cons_of_mem _ (dele_names h hx)
theorem dropP_facts (named:S_api_Spec → List BS) (bs:List S_life_Box) (s:BS) {l:List S_api_Kept} (h1:l.length ≤ 32) (h2:(nms l).Nodup) (h3:∀ x ∈ l,x.f_Name.length ≤ 64) (h4:∀ b ∈ bs,∀ x ∈ named b.f_Spec,x ∈ nms l) :
  (dropP named bs s l).2.length ≤ 32 ∧ (nms (dropP named bs s l).2).Nodup ∧ (∀ x ∈ (dropP named bs s l).2,x.f_Name.length ≤ 64) ∧ (∀ b ∈ bs,∀ x ∈ named b.f_Spec,x ∈ nms (dropP named bs s l).2) ∧ ((dropP named bs s l).1 ≠ 0 → (dropP named bs s l).2 = l):=by
 unfold dropP
 split
 ·exact ⟨h1,h2,h3,h4,fun _=>rfl⟩
 split
 ·exact ⟨h1,h2,h3,h4,fun _=>rfl⟩
 rename_i a1 a2
 have hs:=dele_sub kN (.inl s) l
 refine ⟨Nat.le_trans hs.length_le h1,h2.sublist (hs.map _),fun x hx=>h3 x (hs.subset hx),?_,fun h=>absurd rfl h⟩
 intro b hb x hx
 refine dele_names (h4 b hb x hx) ?_
 rintro rfl
 exact a2 (List.any_eq_true.2 ⟨b,hb,List.contains_iff_mem.2 hx⟩)
theorem Inv.bs_sub {k:Nat} {p:PS} (h:Inv k p) {bs':List S_life_Box} (hs:bs'.Sublist p.bs):Inv k ⟨bs',p.ns,p.vs,p.last⟩ where
 asc:=h.asc.sublist (hs.map _)
 ids:=fun b hb=>h.ids b (hs.subset hb)
 last0:=h.last0
 lastk:=h.lastk
 boxes:=Nat.le_trans hs.length_le h.boxes
 nets:=h.nets
 vols:=h.vols
 nnod:=h.nnod
 vnod:=h.vnod
 nlen:=h.nlen
 vlen:=h.vlen
 bnod:=h.bnod.sublist (hs.map _)
 few:=fun b hb=>h.few b (hs.subset hb)
 nin:=fun b hb=>h.nin b (hs.subset hb)
 vin:=fun b hb=>h.vin b (hs.subset hb)
theorem Inv.bs_eq {k:Nat} {p:PS} (h:Inv k p) {bs':List S_life_Box} (e1:bs'.map (·.f_Id) = p.bs.map (·.f_Id)) (e2:bs'.map (·.f_Spec) = p.bs.map (·.f_Spec)):Inv k ⟨bs',p.ns,p.vs,p.last⟩:=by
 have m1:∀ b ∈ bs',∃ b0 ∈ p.bs,b0.f_Id = b.f_Id:=fun b hb=>List.mem_map.1 (e1 ▸ List.mem_map_of_mem hb)
 have m2:∀ b ∈ bs',∃ b0 ∈ p.bs,b0.f_Spec = b.f_Spec:=fun b hb=>List.mem_map.1 (e2 ▸ List.mem_map_of_mem hb)
 have e3:bs'.map (·.f_Spec.f_Name) = p.bs.map (·.f_Spec.f_Name):=by
  have:=congrArg (List.map (·.f_Name)) e2
  rwa [List.map_map,List.map_map] at this
 exact {
  asc:=by rw [e1]; exact h.asc
  ids:=fun b hb=>by obtain ⟨b0,h0,h1⟩:=m1 b hb; rw [← h1]; exact h.ids b0 h0
  last0:=h.last0
  lastk:=h.lastk
  boxes:=by have:=congrArg List.length e1; simp only [List.length_map] at this; rw [this]; exact h.boxes
  nets:=h.nets
  vols:=h.vols
  nnod:=h.nnod
  vnod:=h.vnod
  nlen:=h.nlen
  vlen:=h.vlen
  bnod:=by rw [e3]; exact h.bnod
  few:=fun b hb=>by obtain ⟨b0,h0,h1⟩:=m2 b hb; rw [← h1]; exact h.few b0 h0
  nin:=fun b hb=>by obtain ⟨b0,h0,h1⟩:=m2 b hb; rw [← h1]; exact h.nin b0 h0
  vin:=fun b hb=>by obtain ⟨b0,h0,h1⟩:=m2 b hb; rw [← h1]; exact h.vin b0 h0 }
theorem Inv.set {k:Nat} {p:PS} (h:Inv k p) {b v:S_life_Box} (hb:b ∈ p.bs) (h1:v.f_Id = b.f_Id) (h2:v.f_Spec = b.f_Spec):Inv k ⟨repl kI p.bs v,p.ns,p.vs,p.last⟩:=by
 refine h.bs_eq (repl_map kI v _ p.bs fun u _ hu=>Sum.inr.inj hu) (repl_map kI v _ p.bs fun u hu huv=>?_)
 have:kI u = kI b:=huv.trans (by simp only [kI,h1])
 have e1:=find_key kI h.idnod hu
 have e2:=find_key kI h.idnod hb
 rw [this] at e1
 rw [h2,Option.some.inj (e1.symm.trans e2)]
theorem Inv.setP {k:Nat} {p:PS} (h:Inv k p) {b:S_life_Box} (hb:b ∈ p.bs) (id:Int) (r:S_life_Box × Int) (h1:r.1.f_Id = b.f_Id) (h2:r.1.f_Spec = b.f_Spec):Inv k (setP id p r).2.2:=by
 unfold M.setP
 split
 ·exact h
 ·exact h.set hb h1 h2
theorem Inv.change {k:Nat} {p:PS} (h:Inv k p) (c:S_api_Call) (now:Int):Inv k (changeP c now p).2.2:=by
 unfold changeP
 split
 ·exact h
 rename_i b hf
 have hb:=List.mem_of_find?_eq_some hf
 split
 ·exact h.setP hb _ _ (start_id b now).1 (start_id b now).2
 split
 ·exact h.setP hb _ _ (stop_id b).1 (stop_id b).2
 split
 ·exact h
 ·exact h.bs_sub (dele_sub _ _ _)
theorem Inv.make {k:Nat} {p:PS} (h:Inv k p) (sp:S_api_Spec) (f1:sp.f_Nets.length ≤ 10) (f2:sp.f_Vols.length ≤ 10):Inv (k + 1) (makeP sp p).2.2:=by
 unfold makeP
 split
 ·exact h.up
 split
 ·exact h.up
 split
 ·exact h.up
 split
 ·exact h.up
 rename_i c1 c2 c3 c4
 rw [Bool.not_eq_false,Bool.and_eq_true,List.all_eq_true,List.all_eq_true] at c3
 have hl:=h.lastk
 have h0:=h.last0
 have ha:∀ b ∈ p.bs ++ [life_New (p.last + 1) sp],b ∈ p.bs ∨ b = life_New (p.last + 1) sp:=fun b hb=>by
  rcases List.mem_append.1 hb with hb | hb
  ·exact .inl hb
  ·exact .inr (List.mem_singleton.1 hb)
 exact {
  asc:=by
   show ((p.bs ++ [_]).map (fun b:S_life_Box=>b.f_Id)).Pairwise (· < ·)
   rw [List.map_append,List.pairwise_append]
   refine ⟨h.asc,by simp,?_⟩
   intro a ha b hb
   obtain ⟨x,h1,rfl⟩:=List.mem_map.1 ha
   simp only [List.map_cons,List.map_nil,List.mem_singleton] at hb
   subst hb
   have:=(h.ids x h1).2
   show x.f_Id < p.last + 1
   omega
  ids:=fun b hb=>by
   rcases ha b hb with hb | rfl
   ·have:=h.ids b hb
    show 1 ≤ b.f_Id ∧ b.f_Id ≤ p.last + 1
    omega
   ·show 1 ≤ p.last + 1 ∧ p.last + 1 ≤ p.last + 1
    omega
  last0:=by show 0 ≤ p.last + 1; omega
  lastk:=by show p.last + 1 ≤ ((k + 1:Nat):Int); omega
  boxes:=by show (p.bs ++ [_]).length ≤ 64; simp; omega
  nets:=h.nets
  vols:=h.vols
  nnod:=h.nnod
  vnod:=h.vnod
  nlen:=h.nlen
  vlen:=h.vlen
  bnod:=by
   show ((p.bs ++ [_]).map (fun b:S_life_Box=>b.f_Spec.f_Name)).Nodup
   rw [List.map_append,List.nodup_append]
   refine ⟨h.bnod,by simp,?_⟩
   intro a ha b hb
   obtain ⟨x,h1,rfl⟩:=List.mem_map.1 ha
   simp only [List.map_cons,List.map_nil,List.mem_singleton] at hb
   subst hb
   intro he
   exact c2 (List.any_eq_true.2 ⟨x,h1,beq_iff_eq.2 he⟩)
  few:=fun b hb=>by
   rcases ha b hb with hb | rfl
   ·exact h.few b hb
   ·exact ⟨f1,f2⟩
  nin:=fun b hb=>by
   rcases ha b hb with hb | rfl
   ·exact h.nin b hb
   ·exact fun s hs=>List.contains_iff_mem.1 (c3.1 s hs)
  vin:=fun b hb=>by
   rcases ha b hb with hb | rfl
   ·exact h.vin b hb
   ·exact fun s hs=>List.contains_iff_mem.1 (c3.2 s hs) }
theorem Inv.step {k:Nat} {p:PS} (h:Inv k p) (c:S_api_Call) (now:Int) (f1:c.f_Spec.f_Nets.length ≤ 10) (f2:c.f_Spec.f_Vols.length ≤ 10):Inv (k + 1) (stepP c now p).2.2:=by
 unfold stepP
 split
 ·obtain ⟨a1,a2,a3,a4,_⟩:=putP_facts c h.nets h.nnod h.nlen
  exact { h.up with nets:=a1,nnod:=a2,nlen:=a3,nin:=fun b hb s hs=>a4 s (h.nin b hb s hs) }
 split
 ·obtain ⟨a1,a2,a3,a4,_⟩:=putP_facts c h.vols h.vnod h.vlen
  exact { h.up with vols:=a1,vnod:=a2,vlen:=a3,vin:=fun b hb s hs=>a4 s (h.vin b hb s hs) }
 split
 ·obtain ⟨a1,a2,a3,a4,_⟩:=dropP_facts (·.f_Nets) p.bs c.f_Name h.nets h.nnod h.nlen h.nin
  exact { h.up with nets:=a1,nnod:=a2,nlen:=a3,nin:=a4 }
 split
 ·obtain ⟨a1,a2,a3,a4,_⟩:=dropP_facts (·.f_Vols) p.bs c.f_Name h.vols h.vnod h.vlen h.vin
  exact { h.up with vols:=a1,vnod:=a2,vlen:=a3,vin:=a4 }
 split
 ·exact h.make c.f_Spec f1 f2
 split
 ·exact (h.change c now).up
 ·exact h.up
theorem inv0:Inv 0 ⟨[],[],[],0⟩ where
 asc:=.nil
 ids:=fun b hb=>by cases hb
 last0:=by decide
 lastk:=by decide
 boxes:=by decide
 nets:=by decide
 vols:=by decide
 nnod:=.nil
 vnod:=.nil
 nlen:=fun b hb=>by cases hb
 vlen:=fun b hb=>by cases hb
 bnod:=.nil
 few:=fun b hb=>by cases hb
 nin:=fun b hb=>by cases hb
 vin:=fun b hb=>by cases hb
theorem alike_refl (n:Nat) (s:S_api_Spec) (h1:s.f_Nets.length ≤ 1000) (h2:s.f_Vols.length ≤ 1000) (hn:100000 ≤ n):ref27_Alike n s s = some true:=by
 unfold ref27_Alike
 rw [ref02_Same_eq n _ _ (by omega) hn,Option.bind_some]
 simp only [decide_true,Bool.not_true,beq_self_eq_true,if_true]
 rw [ref02_Same_eq n _ _ (by omega) hn,Option.bind_some]
 simp [lett]
theorem findSome_no {α ρ:Type}:∀ l:List α,l.findSome? (fun _=>(none:Option ρ)) = none
 | []=>rfl
 | _ :: l=>by rw [List.findSome?_cons]; exact findSome_no l
theorem sameBoxes_refl (n:Nat) (l:List S_api_Container) (hl:l.length ≤ 1000) (h:∀ c ∈ l,c.f_Spec.f_Nets.length ≤ 1000 ∧ c.f_Spec.f_Vols.length ≤ 1000) (hn:100000 ≤ n):law33_SameBoxes n l l = some true:=by
 unfold law33_SameBoxes
 rw [if_neg (by simp)]
 have:=scanL (L:=law33_SameBoxes_l1 n l l) l (fun _=>none) 0 (by omega)
  (fun k i hi _=>by
   have hc:=h _ (List.getElem_mem hi)
   rw [law33_SameBoxes_l1,if_pos (lt_i hi),if_pos (in_i hi),if_pos (in_i hi),at_i hi]
   simp only [bne_self_eq_false,cond_false,beq_self_eq_true,if_true]
   rw [alike_refl n _ hc.1 hc.2 hn]
   simp [lett])
  (fun k=>by rw [law33_SameBoxes_l1,nlt_n]; rfl) n 0 (by omega) (by omega) (by omega)
 have this:law33_SameBoxes_l1 n l l n 0 = _:=this
 rw [this,List.drop_zero,findSome_no]; rfl
theorem seenB_few {k:Nat} {p:PS} (h:Inv k p):∀ c ∈ p.bs.map seenB,c.f_Spec.f_Nets.length ≤ 1000 ∧ c.f_Spec.f_Vols.length ≤ 1000:=by
 intro c hc
 obtain ⟨b,h1,rfl⟩:=List.mem_map.1 hc
 have:=h.few b h1
 show b.f_Spec.f_Nets.length ≤ 1000 ∧ b.f_Spec.f_Vols.length ≤ 1000
 omega
def fewC (c:S_api_Call):Bool:=(bif (bif (bif (decide ((List.length c.f_Spec.f_Nets:Int) > 10)) then true else (decide ((List.length c.f_Spec.f_Vols:Int) > 10))) then true else (decide ((List.length c.f_Spec.f_Name:Int) > 200))) then true else (decide ((List.length c.f_Name:Int) > 200)))
theorem findSome_any2 {α ρ:Type} (p:α → Bool) (r:ρ):∀ l:List α,l.findSome? (fun x=>if p x = true then some r else none) = if l.any p = true then some r else none
 | []=>rfl
 | x :: l=>by
  rw [List.findSome?_cons,List.any_cons,findSome_any2 p r l]
  cases p x <;> simp
theorem few33 (n:Nat) (l:List S_api_Call) (m:Nat) (hm:m ≤ 1000) (hn:100000 ≤ n):law33_Few n l (m:Int) = some (decide (l.length ≤ m) && !l.any fewC):=by
 unfold law33_Few
 by_cases h:(l.length:Int) > (m:Int)
 ·rw [if_pos (decide_eq_true h),decide_eq_false (by omega)]; rfl
 ·rw [if_neg (by simpa using h),decide_eq_true (by omega)]
  have:=scanL (L:=law33_Few_l1 n l) l (fun x=>if fewC x = true then some false else none) 0 (by omega)
   (fun k i h _=>by
    rw [law33_Few_l1,if_pos (lt_i h),if_pos (in_i h),at_i h,if_pos (by rw [in_i h]; simp),if_pos (by rw [in_i h]; simp),if_pos (by rw [in_i h]; simp)]
    simp only [lett]
    unfold fewC
    split <;> rfl)
   (fun k=>by rw [law33_Few_l1,nlt_n]; rfl) n 0 (by omega) (by omega) (by omega)
  have this:law33_Few_l1 n l n 0 = _:=this
  rw [this,List.drop_zero,findSome_any2]
  cases l.any fewC <;> rfl
theorem fewC_few {c:S_api_Call} (h:fewC c = false):c.f_Spec.f_Nets.length ≤ 10 ∧ c.f_Spec.f_Vols.length ≤ 10:=by
 unfold fewC at h
 simp only [Bool.cond_true_left,Bool.or_eq_false_iff,decide_eq_false_iff_not] at h
 omega
theorem idxScan {α:Type} {L:Nat → Int → Option (Sum Unit Int)} (l:List α) (q:α → Bool) (hN:l.length < 1000000)
  (hs:∀ k i (h:i < l.length),L (k + 1) (i:Int) = if q l[i] = true then some (.inr (i:Int)) else L k (IntKind.wrap .i64 ((i:Int) + 1)))
  (he:∀ k,L (k + 1) (l.length:Int) = some (.inl ())) (k:Nat) (hk:l.length < k):L k 0 = some (match l.findIdx? q with | some i=>.inr (i:Int) | none=>.inl ()):=by
 have:=scanI (L:=L) l (fun i y=>if q y = true then some (i:Int) else none) 0 (by omega)
  (fun k i h _=>by rw [hs k i h]; cases q l[i] <;> rfl) he k 0 (by omega) (by omega) (by omega)
 have this:L k 0 = _:=this
 rw [this,List.drop_zero]
 have key:∀ (l:List α) (i:Nat),findI (fun i y=>if q y = true then some (i:Int) else none) i l = (l.findIdx? q).map fun j=>((i + j:Nat):Int):=by
  intro l
  induction l with
  | nil=>intro i; rfl
  | cons y l ih =>
   intro i
   unfold findI
   rw [List.findIdx?_cons]
   cases hc:q y with
   | true=>simp
   | false =>
    simp only [Bool.false_eq_true,if_false,ih (i + 1),Option.map_map]
    congr 1
    funext j
    simp only [Function.comp]
    omega
 rw [key]
 cases l.findIdx? q <;> simp
theorem anyScan {α σ X:Type} {L:Nat → Int → Option (Sum σ X)} (l:List α) (q:α → Bool) (s:σ) (x:X) (hN:l.length < 1000000)
  (hs:∀ k i (h:i < l.length),L (k + 1) (i:Int) = if q l[i] = true then some (.inr x) else L k (IntKind.wrap .i64 ((i:Int) + 1)))
  (he:∀ k,L (k + 1) (l.length:Int) = some (.inl s)):∀ (k i:Nat),i ≤ l.length → l.length - i < k → L k (i:Int) = some (if (l.drop i).any q = true then .inr x else .inl s)
 | 0,i,_,h=>by omega
 | k + 1,i,h1,h2=>by
  by_cases h:i < l.length
  ·rw [hs k i h,drop_at h,List.any_cons]
   cases hq:q l[i] with
   | true=>rfl
   | false =>
    rw [if_neg (by decide),wrap_s i (by omega),Bool.false_or]
    exact anyScan l q s x hN hs he k (i + 1) (by omega) (by omega)
  ·have:i = l.length:=by omega
   subst this
   rw [he,List.drop_eq_nil_of_le (Nat.le_refl _)]; rfl
theorem find_idx {α:Type} (q:α → Bool):∀ l:List α,l.find? q = (l.findIdx? q).bind fun i=>l[i]?
 | []=>rfl
 | u :: r=>by
  rw [List.find?_cons,List.findIdx?_cons]
  cases h:q u with
  | true=>rfl
  | false =>
   simp only [Bool.false_eq_true,if_false]
   rw [find_idx q r]
   cases r.findIdx? q <;> rfl
theorem dele_idx {α:Type} (kf:α → MK) (x:MK):∀ (l:List α) (i:Nat),l.findIdx? (fun v=>decide (kf v = x)) = some i → dele kf x l = l.take i ++ l.drop (i + 1)
 | [],i,h=>by cases h
 | u :: r,i,h=>by
  rw [List.findIdx?_cons] at h
  unfold dele
  by_cases hu:kf u = x
  ·rw [decide_eq_true hu] at h
   cases h
   rw [if_pos hu]; rfl
  ·rw [decide_eq_false hu] at h
   simp only [Bool.false_eq_true,if_false,Option.map_eq_some_iff] at h
   obtain ⟨j,h1,rfl⟩:=h
   rw [if_neg hu,dele_idx kf x r j h1]; rfl
theorem repl_idx {α:Type} (kf:α → MK) (v:α):∀ (l:List α) (i:Nat),l.findIdx? (fun u=>decide (kf u = kf v)) = some i → repl kf l v = l.set i v
 | [],i,h=>by cases h
 | u :: r,i,h=>by
  rw [List.findIdx?_cons] at h
  unfold repl
  by_cases hu:kf u = kf v
  ·rw [decide_eq_true hu] at h
   cases h
   rw [if_pos hu]; rfl
  ·rw [decide_eq_false hu] at h
   simp only [Bool.false_eq_true,if_false,Option.map_eq_some_iff] at h
   obtain ⟨j,h1,rfl⟩:=h
   rw [if_neg hu,repl_idx kf v r j h1]; rfl
theorem idx_some {α:Type} {q:α → Bool} {l:List α} {i:Nat} (h:l.findIdx? q = some i):i < l.length:=by
 rw [List.findIdx?_eq_some_iff_getElem] at h
 exact h.1
def ofI (o:Option Nat):Int:=match o with | some i=>(i:Int) | none=>-1
theorem ofI_neg {o:Option Nat}:decide (ofI o < 0) = o.isNone:=by
 cases o with
 | none=>rfl
 | some i=>exact decide_eq_false (by show ¬ (i:Int) < 0; omega)
theorem ofI_pos {o:Option Nat}:decide (ofI o ≥ 0) = o.isSome:=by
 cases o with
 | none=>rfl
 | some i=>exact decide_eq_true (by show 0 ≤ (i:Int); omega)
theorem right_eq (c:S_api_Check):ref30_Right c = probe_Right c:=by
 unfold ref30_Right probe_Right
 simp only [lett]
 rw [Bool.eq_iff_iff]
 cases hc:c.f_Test with
 | nil=>simp
 | cons a l =>
  simp only [List.length_cons,Bool.cond_true_left,Bool.cond_false_right,Bool.or_eq_true,beq_iff_eq,decide_eq_true_eq,Bool.and_eq_true]
  split
  ·simp; omega
  ·rename_i h
   simp only [not_or] at h
   simp; omega
theorem begin_eq (c:S_api_Check) (t:Int):ref30_Begin c t = probe_Begin c t:=by
 unfold ref30_Begin probe_Begin; rw [right_eq]
def toR (b:S_life_Box):S_ref32_Box:=⟨b.f_Spec,b.f_Id,b.f_State,b.f_Code,b.f_Runs,b.f_Done,b.f_At,b.f_ByHand,b.f_Sick,b.f_Probe⟩
theorem start_eq (b:S_life_Box) (t:Int):ref32_Start (toR b) t = (toR (life_Start b t).1,(life_Start b t).2):=by
 unfold ref32_Start life_Start life_run toR
 simp only [lett,begin_eq]
 split <;> rfl
theorem stop_eq (b:S_life_Box):ref32_Stop (toR b) = (toR (life_Stop b).1,(life_Stop b).2):=by
 unfold ref32_Stop life_Stop life_Stop_j1 ref32_Stop_j1 toR
 simp only [lett]
 by_cases h:b.f_State = 2
 ·simp [h]
 ·by_cases h2:b.f_At = -1 <;> simp [h,h2]
abbrev qN (s:BS):S_api_Kept → Bool:=fun k=>decide (kN k = .inl s)
theorem qN_eq (k:S_api_Kept) (s:BS):(k.f_Name == s) = qN s k:=by
 rw [Bool.eq_iff_iff]; simp [qN,kN]
theorem at33_eq (n:Nat) (l:List S_api_Kept) (s:BS) (hl:l.length ≤ 1000) (hn:100000 ≤ n):ref33_at n l s = some (ofI (l.findIdx? (qN s))):=by
 unfold ref33_at
 have:=idxScan (L:=ref33_at_l1 n l s) l (qN s) (by omega)
  (fun k i h=>by rw [ref33_at_l1,if_pos (lt_i h),if_pos (in_i h),at_i h,qN_eq])
  (fun k=>by rw [ref33_at_l1,nlt_n]; rfl) n (by omega)
 rw [this]
 cases l.findIdx? (qN s) <;> rfl
theorem idx_nms (l:List S_api_Kept) (s:BS):(l.findIdx? (qN s)).isSome = (nms l).contains s:=by
 rw [List.findIdx?_isSome,Bool.eq_iff_iff,List.contains_iff_mem,List.any_eq_true]
 constructor
 ·rintro ⟨k,h1,h2⟩
  have:=Sum.inl.inj (of_decide_eq_true h2)
  exact List.mem_map.2 ⟨k,h1,this⟩
 ·intro h
  obtain ⟨k,h1,h2⟩:=List.mem_map.1 h
  exact ⟨k,h1,decide_eq_true (by simp only [kN,h2])⟩
theorem idx_nms' (l:List S_api_Kept) (s:BS):(l.findIdx? (qN s)).isNone = !(nms l).contains s:=by
 rw [← idx_nms]; cases l.findIdx? (qN s) <;> rfl
theorem len1 (s:BS) (m:Nat):(bif decide ((List.length s:Int) < 1) then true else decide ((List.length s:Int) > (m:Int))) = decide (s = [] ∨ m < s.length):=by
 rw [Bool.eq_iff_iff]
 rw [Bool.cond_true_left,Bool.or_eq_true,decide_eq_true_eq,decide_eq_true_eq,decide_eq_true_eq,← List.length_eq_zero_iff]
 constructor <;> intro h <;> omega
theorem put33_eq (n:Nat) (c:S_api_Call) (l:List S_api_Kept) (hl:l.length ≤ 32) (hn:100000 ≤ n):ref33_put n l c = some ((putP c l).2,(putP c l).1):=by
 unfold ref33_put putP
 rw [show (64:Int) = ((64:Nat):Int) from rfl,len1]
 by_cases h1:c.f_Name = [] ∨ 64 < c.f_Name.length
 ·rw [if_pos (decide_eq_true h1),if_pos h1]
 rw [if_neg (by simpa using h1),if_neg h1,at33_eq n l _ (by omega) hn,Option.bind_some,ofI_pos,idx_nms]
 by_cases h2:(nms l).contains c.f_Name = true
 ·rw [if_pos h2,if_pos h2]
 rw [if_neg h2,if_neg h2]
 by_cases h3:32 ≤ l.length
 ·rw [if_pos (by simp; omega),if_pos h3]
 rw [if_neg (by simp; omega),if_neg h3,if_pos (fitsM (by simp only [List.length_nil]; omega)),if_pos (fitsM (by simp only [List.length_append,List.length_cons,List.length_nil]; omega))]
 rfl
def toW (p:PS):S_ref33_Store:=⟨p.bs.map toR,p.ns,p.vs,p.last⟩
theorem boxN (b:S_life_Box):(toR b).f_Spec = b.f_Spec:=rfl
theorem drop33_eq (n:Nat) (p:PS) (l:List S_api_Kept) (s:BS) (flag:Bool) (hl:l.length ≤ 1000) (hb:p.bs.length ≤ 1000) (hf:∀ b ∈ p.bs,b.f_Spec.f_Nets.length ≤ 1000 ∧ b.f_Spec.f_Vols.length ≤ 1000) (hn:100000 ≤ n) :
  ref33_drop n (toW p) l s flag = some ((dropP (if flag = true then (·.f_Nets) else (·.f_Vols)) p.bs s l).2,(dropP (if flag = true then (·.f_Nets) else (·.f_Vols)) p.bs s l).1):=by
 unfold ref33_drop dropP
 rw [at33_eq n l _ hl hn,Option.bind_some,ofI_neg,idx_nms']
 cases h1:(nms l).contains s with
 | false=>rw [if_pos (by rfl),if_pos rfl]
 | true =>
  rw [if_neg (show ¬ (!true) = true by decide),if_neg (show ¬ true = false by decide)]
  have hj:=idx_nms l s
  rw [h1,Option.isSome_iff_exists] at hj
  obtain ⟨j,hj⟩:=hj
  have hjl:=idx_some hj
  have hlen:(toW p).f_Boxes.length = p.bs.length:=by simp [toW]
  have:=anyScan (L:=ref33_drop_l1 n l s flag (ofI (l.findIdx? (qN s))) (toW p)) p.bs (fun b=>((if flag = true then (fun sp:S_api_Spec=>sp.f_Nets) else (fun sp:S_api_Spec=>sp.f_Vols)) b.f_Spec).contains s) () (l,17) (by omega)
   (fun k i h=>by
    have h':i < (toW p).f_Boxes.length:=by omega
    have hfb:=hf _ (List.getElem_mem h)
    have hg:((toW p).f_Boxes[Int.toNat (i:Int)]?.getD Z_ref32_Box) = toR p.bs[i]:=by rw [at_i h']; simp [toW]
    rw [ref33_drop_l1,if_pos (lt_i h'),ref33_drop_j2,if_pos (in_i h'),ref33_drop_j3,if_pos (in_i h'),hg,boxN]
    cases flag with
    | true =>
     rw [if_pos rfl,Option.bind_some,ref02_In_eq n _ _ (by omega) hn,Option.bind_some]
     simp only [if_true]
     cases p.bs[i].f_Spec.f_Nets.contains s <;> rfl
    | false =>
     rw [if_neg (by decide),Option.bind_some,ref02_In_eq n _ _ (by omega) hn,Option.bind_some]
     simp only [Bool.false_eq_true,if_false]
     cases p.bs[i].f_Spec.f_Vols.contains s <;> rfl)
   (fun k=>by rw [ref33_drop_l1,hlen,nlt_n]; rfl) n 0 (by omega) (by omega)
  have this:ref33_drop_l1 n l s flag (ofI (l.findIdx? (qN s))) (toW p) n 0 = _:=this
  rw [this,List.drop_zero,Option.bind_some]
  by_cases h2:(p.bs.any fun b=>((if flag = true then (fun sp:S_api_Spec=>sp.f_Nets) else (fun sp:S_api_Spec=>sp.f_Vols)) b.f_Spec).contains s) = true
  ·rw [if_pos h2,if_pos h2]; rfl
  ·rw [if_neg h2,if_neg h2,Sum.elim_inl,hj]
   show (if decide (0 ≤ (j:Int) ∧ (j:Int) ≤ (List.length l:Int)) = true then _ else none) = _
   rw [if_pos (decide_eq_true (by omega)),show ofI (some j) = (j:Int) from rfl,Int.toNat_natCast,if_pos (fitsM (by simp only [List.length_nil,List.length_take]; omega)),wrap_s j (by omega),Int.toNat_natCast,if_pos (decide_eq_true (by omega)),
    if_pos (fitsM (by simp only [List.length_append,List.length_nil,List.length_take,List.length_drop]; omega)),List.nil_append,dele_idx kN (.inl s) l j hj]
theorem make33_eq (n:Nat) (sp:S_api_Spec) (p:PS) (h0:0 ≤ p.last) (h1:p.last ≤ 1000) (hb:p.bs.length ≤ 64) (hns:p.ns.length ≤ 1000) (hvs:p.vs.length ≤ 1000) (hn1:sp.f_Nets.length ≤ 10) (hn2:sp.f_Vols.length ≤ 10) (hn:100000 ≤ n) :
  ref33_Store_make n (toW p) sp = some (toW (makeP sp p).2.2,(makeP sp p).1,(makeP sp p).2.1):=by
 unfold ref33_Store_make makeP
 rw [show (128:Int) = ((128:Nat):Int) from rfl,len1]
 by_cases c1:sp.f_Name = [] ∨ 128 < sp.f_Name.length
 ·rw [if_pos (decide_eq_true c1),if_pos c1]
 rw [if_neg (by simpa using c1),if_neg c1]
 have hlen:(toW p).f_Boxes.length = p.bs.length:=by simp [toW]
 have e1:=anyScan (L:=fun k i=>ref33_Store_make_l1 n (toW p) sp k i ⟨[],[],[],0⟩) p.bs (fun b=>b.f_Spec.f_Name == sp.f_Name) (⟨[],[],[],0⟩:S_ref33_Store) ((0:Int),(11:Int),toW p) (by omega)
  (fun k i h=>by
   have h':i < (toW p).f_Boxes.length:=by omega
   have hg:((toW p).f_Boxes[Int.toNat (i:Int)]?.getD Z_ref32_Box) = toR p.bs[i]:=by rw [at_i h']; simp [toW]
   show ref33_Store_make_l1 n (toW p) sp (k + 1) (i:Int) _ = _
   rw [ref33_Store_make_l1,if_pos (lt_i h'),if_pos (in_i h'),hg]; rfl)
  (fun k=>by
   show ref33_Store_make_l1 n (toW p) sp (k + 1) (List.length p.bs:Int) _ = _
   rw [ref33_Store_make_l1,hlen,nlt_n]; rfl) n 0 (by omega) (by omega)
 have e1:ref33_Store_make_l1 n (toW p) sp n 0 ⟨[],[],[],0⟩ = _:=e1
 rw [e1,List.drop_zero,Option.bind_some]
 by_cases c2:(p.bs.any fun b=>b.f_Spec.f_Name == sp.f_Name) = true
 ·rw [if_pos c2,if_pos c2]; rfl
 rw [if_neg c2,if_neg c2,Sum.elim_inl]
 have e2:=anyScan (L:=fun k i=>ref33_Store_make_l2 n (toW p) sp k i ⟨[],[],[],0⟩) sp.f_Nets (fun s=>!(nms p.ns).contains s) (⟨[],[],[],0⟩:S_ref33_Store) ((0:Int),(12:Int),toW p) (by omega)
  (fun k i h=>by
   show ref33_Store_make_l2 n (toW p) sp (k + 1) (i:Int) _ = _
   rw [ref33_Store_make_l2,if_pos (lt_i h),if_pos (in_i h),at_i h,at33_eq n _ _ (show (toW p).f_Nets.length ≤ 1000 from hns) hn,Option.bind_some,ofI_neg,idx_nms']; rfl)
  (fun k=>by
   show ref33_Store_make_l2 n (toW p) sp (k + 1) (List.length sp.f_Nets:Int) _ = _
   rw [ref33_Store_make_l2,nlt_n]; rfl) n 0 (by omega) (by omega)
 have e2:ref33_Store_make_l2 n (toW p) sp n 0 ⟨[],[],[],0⟩ = _:=e2
 have e3:=anyScan (L:=fun k i=>ref33_Store_make_l3 n (toW p) sp k i ⟨[],[],[],0⟩) sp.f_Vols (fun s=>!(nms p.vs).contains s) (⟨[],[],[],0⟩:S_ref33_Store) ((0:Int),(12:Int),toW p) (by omega)
  (fun k i h=>by
   show ref33_Store_make_l3 n (toW p) sp (k + 1) (i:Int) _ = _
   rw [ref33_Store_make_l3,if_pos (lt_i h),if_pos (in_i h),at_i h,at33_eq n _ _ (show (toW p).f_Vols.length ≤ 1000 from hvs) hn,Option.bind_some,ofI_neg,idx_nms']; rfl)
  (fun k=>by
   show ref33_Store_make_l3 n (toW p) sp (k + 1) (List.length sp.f_Vols:Int) _ = _
   rw [ref33_Store_make_l3,nlt_n]; rfl) n 0 (by omega) (by omega)
 have e3:ref33_Store_make_l3 n (toW p) sp n 0 ⟨[],[],[],0⟩ = _:=e3
 have an:∀ (l:List BS) (q:BS → Bool),l.any (fun s=>!q s) = !l.all q:=fun l q=>by induction l <;> simp_all
 rw [e2,List.drop_zero,Option.bind_some,an]
 cases c3:sp.f_Nets.all fun s=>(nms p.ns).contains s with
 | false=>rfl
 | true =>
  rw [if_neg (show ¬ (!true) = true by decide),Sum.elim_inl,e3,List.drop_zero,Option.bind_some,an]
  cases c4:sp.f_Vols.all fun s=>(nms p.vs).contains s with
  | false=>rfl
  | true =>
   rw [if_neg (show ¬ (!true) = true by decide),Sum.elim_inl,if_neg (show ¬ (true && true) = false by decide),hlen]
   by_cases c5:64 ≤ p.bs.length
   ·rw [if_pos (by simp; omega),if_pos c5]
   ·rw [if_neg (by simp; omega),if_neg c5,if_pos (fitsM (by simp only [List.length_nil]; omega))]
    simp only [lett]
    rw [if_pos (fitsM (by simp only [List.length_append,List.length_cons,List.length_nil,hlen]; omega))]
    show some ((⟨[] ++ p.bs.map toR ++ [ref32_New (IntKind.wrap .i64 (p.last + 1)) sp],p.ns,p.vs,IntKind.wrap .i64 (p.last + 1)⟩:S_ref33_Store),IntKind.wrap .i64 (p.last + 1),(0:Int)) = _
    rw [wrap_last h0 h1]
    unfold toW
    simp only [List.nil_append,List.map_append]; rfl
abbrev qI (id:Int):S_life_Box → Bool:=fun b=>decide (kI b = .inr id)
theorem find33_eq (n:Nat) (p:PS) (id:Int) (hb:p.bs.length ≤ 1000) (hn:100000 ≤ n):ref33_Find n (toW p) id = some (ofI (p.bs.findIdx? (qI id))):=by
 unfold ref33_Find
 have hlen:(toW p).f_Boxes.length = p.bs.length:=by simp [toW]
 have:=idxScan (L:=ref33_Find_l1 n id (toW p)) p.bs (qI id) (by omega)
  (fun k i h=>by
   have h':i < (toW p).f_Boxes.length:=by omega
   have hg:((toW p).f_Boxes[Int.toNat (i:Int)]?.getD Z_ref32_Box) = toR p.bs[i]:=by rw [at_i h']; simp [toW]
   have hq:((toR p.bs[i]).f_Id == id) = qI id p.bs[i]:=by
    rw [Bool.eq_iff_iff]; simp [qI,kI,toR]
   rw [ref33_Find_l1,if_pos (lt_i h'),if_pos (in_i h'),hg,hq])
  (fun k=>by rw [ref33_Find_l1,hlen,nlt_n]; rfl) n (by omega)
 rw [this]
 cases p.bs.findIdx? (qI id) <;> rfl
theorem put33S_eq (n:Nat) (p:PS) (v:S_life_Box) (i:Nat) (hi:p.bs.findIdx? (qI v.f_Id) = some i) (hb:p.bs.length ≤ 1000) (hn:100000 ≤ n):ref33_Put n (toW p) (toR v) = some (toW ⟨repl kI p.bs v,p.ns,p.vs,p.last⟩):=by
 unfold ref33_Put
 have hlen:(toW p).f_Boxes.length = p.bs.length:=by simp [toW]
 have hil:=idx_some hi
 rw [if_pos (fitsM (by simp only [List.length_nil,hlen]; omega)),show (toR v).f_Id = v.f_Id from rfl,find33_eq n p _ hb hn,Option.bind_some,ofI_pos,hi]
 unfold ref33_Put_j1
 rw [if_pos (by rfl),show ofI (some i) = (i:Int) from rfl,List.nil_append,if_pos (in_i (by omega)),Option.bind_some,Int.toNat_natCast,repl_idx kI v p.bs i hi]
 unfold toW
 rw [List.map_set]
theorem change33_eq (n:Nat) (c:S_api_Call) (now:Int) (p:PS) (hb:p.bs.length ≤ 1000) (hk:c.f_Kind = 6 ∨ c.f_Kind = 7 ∨ c.f_Kind = 8) (hn:100000 ≤ n) :
  ref33_Store_change n (toW p) c now = some (toW (changeP c now p).2.2,(changeP c now p).1,(changeP c now p).2.1):=by
 unfold ref33_Store_change changeP
 have hlen:(toW p).f_Boxes.length = p.bs.length:=by simp [toW]
 rw [find33_eq n p _ hb hn,Option.bind_some,ofI_neg,find_idx]
 cases hi:p.bs.findIdx? fun b=>decide (kI b = .inr c.f_Id) with
 | none=>rw [if_pos (by rfl)]; rfl
 | some i =>
  have hil:=idx_some hi
  have hq:decide (kI p.bs[i] = .inr c.f_Id) = true:=by
   rw [List.findIdx?_eq_some_iff_getElem] at hi
   exact hi.2.1
  have hid:p.bs[i].f_Id = c.f_Id:=Sum.inr.inj (of_decide_eq_true hq)
  rw [if_neg (show ¬ (Option.isNone (some i)) = true by simp),show ofI (some i) = (i:Int) from rfl,if_pos (in_i (by omega))]
  have hg:((toW p).f_Boxes[Int.toNat (i:Int)]?.getD Z_ref32_Box) = toR p.bs[i]:=by rw [at_i (by omega)]; simp [toW]
  rw [hg,Option.bind_some,List.getElem?_eq_getElem hil]
  dsimp only
  by_cases k8:c.f_Kind = 8
  ·rw [if_pos (by simpa using k8),if_neg (show ¬ c.f_Kind = 6 by omega),if_neg (show ¬ c.f_Kind = 7 by omega)]
   by_cases s2:p.bs[i].f_State = 2
   ·rw [if_pos (by simpa [toR] using s2),if_pos s2]
   ·rw [if_neg (by simpa [toR] using s2),if_neg s2,if_pos (decide_eq_true (by omega)),Int.toNat_natCast,if_pos (fitsM (by simp only [List.length_nil,List.length_take]; omega)),wrap_s i (by omega),Int.toNat_natCast,if_pos (decide_eq_true (by omega)),
     if_pos (fitsM (by simp only [List.length_append,List.length_nil,List.length_take,List.length_drop]; omega)),dele_idx kI (.inr c.f_Id) p.bs i hi]
    simp only [lett,List.nil_append]
    unfold toW
    simp only [List.map_append,List.map_take,List.map_drop]
  ·rw [if_neg (by simpa using k8)]
   unfold ref33_Store_change_j1
   by_cases k6:c.f_Kind = 6
   ·rw [if_pos (by simpa using k6),if_pos k6,start_eq]
    simp only [lett,Option.bind_some]
    unfold setP
    by_cases r:(life_Start p.bs[i] now).2 = 0
    ·rw [if_neg (by simp [r]),if_neg (by simp [r]),put33S_eq n p _ i (by rw [(start_id p.bs[i] now).1,hid]; exact hi) hb hn]; rfl
    ·rw [if_pos (by simpa using r),if_pos r]
   ·rw [if_neg (by simpa using k6),if_neg k6,if_pos (show c.f_Kind = 7 by omega),stop_eq]
    simp only [lett,Option.bind_some]
    unfold setP
    by_cases r:(life_Stop p.bs[i]).2 = 0
    ·rw [if_neg (by simp [r]),if_neg (by simp [r]),put33S_eq n p _ i (by rw [(stop_id p.bs[i]).1,hid]; exact hi) hb hn]; rfl
    ·rw [if_pos (by simpa using r),if_pos r]
theorem Do33_eq (n:Nat) (c:S_api_Call) (now:Int) {k:Nat} {p:PS} (hi:Inv k p) (hk:k ≤ 1000) (h1:c.f_Spec.f_Nets.length ≤ 10) (h2:c.f_Spec.f_Vols.length ≤ 10) (hn:100000 ≤ n) :
  ref33_Do n (toW p) c now = some (toW (stepP c now p).2.2,(stepP c now p).1,(stepP c now p).2.1):=by
 unfold ref33_Do stepP
 have hb:=hi.boxes
 have hns:=hi.nets
 have hvs:=hi.vols
 have hf:∀ b ∈ p.bs,b.f_Spec.f_Nets.length ≤ 1000 ∧ b.f_Spec.f_Vols.length ≤ 1000:=fun b hb=>by have:=hi.few b hb; omega
 by_cases k1:c.f_Kind = 1
 ·rw [if_pos (by simpa using k1),if_pos k1,show (toW p).f_Nets = p.ns from rfl,put33_eq n c _ hns hn]; rfl
 rw [if_neg (by simpa using k1),if_neg k1]
 by_cases k2:c.f_Kind = 2
 ·rw [if_pos (by simpa using k2),if_pos k2,show (toW p).f_Vols = p.vs from rfl,put33_eq n c _ hvs hn]; rfl
 rw [if_neg (by simpa using k2),if_neg k2]
 by_cases k3:c.f_Kind = 3
 ·rw [if_pos (by simpa using k3),if_pos k3,show (toW p).f_Nets = p.ns from rfl,drop33_eq n p _ _ true (by omega) (by omega) hf hn]; rfl
 rw [if_neg (by simpa using k3),if_neg k3]
 by_cases k4:c.f_Kind = 4
 ·rw [if_pos (by simpa using k4),if_pos k4,show (toW p).f_Vols = p.vs from rfl,drop33_eq n p _ _ false (by omega) (by omega) hf hn]; rfl
 rw [if_neg (by simpa using k4),if_neg k4]
 by_cases k5:c.f_Kind = 5
 ·rw [if_pos (by simpa using k5),if_pos k5,make33_eq n _ _ hi.last0 (by have:=hi.lastk; omega) hb (by omega) (by omega) h1 h2 hn]; rfl
 rw [if_neg (by simpa using k5),if_neg k5]
 have ej:(bif (bif (c.f_Kind == 6) then true else (c.f_Kind == 7)) then true else (c.f_Kind == 8)) = decide (c.f_Kind = 6 ∨ c.f_Kind = 7 ∨ c.f_Kind = 8):=by
  rw [Bool.eq_iff_iff]; simp [or_assoc]
 rw [ej]
 by_cases k6:c.f_Kind = 6 ∨ c.f_Kind = 7 ∨ c.f_Kind = 8
 ·rw [if_pos (decide_eq_true k6),if_pos k6,change33_eq n c now p (by omega) k6 hn]; rfl
 ·rw [if_neg (by simpa using k6),if_neg k6]
theorem seen32_eq (b:S_life_Box):ref32_Seen (toR b) = seenB b:=by
 unfold ref32_Seen seenB ref32_Seen_j1 toR
 simp only [lett]
end Go.Proofs.YtaecmkldkljioaaGreat.M
