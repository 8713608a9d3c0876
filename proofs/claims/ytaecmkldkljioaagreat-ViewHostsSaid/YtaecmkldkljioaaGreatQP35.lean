import Derived.Test.YtaecmkldkljioaaGreatQM35
import Derived.Test.YtaecmkldkljioaaGreatQLoop
set_option linter.all false
namespace Go.Proofs.YtaecmkldkljioaaGreat.M
open Go Go.Proofs.YtaecmkldkljioaaGreat.RX Go.Proofs.YtaecmkldkljioaaGreat.PL
set_option maxRecDepth 100000
theorem strSort_sorted (l:List BS):(strSort l).Pairwise (· ≤ ·):=by
 have:=List.pairwise_mergeSort (le:=fun x y:BS=>decide (x ≤ y)) (fun a b c h1 h2=>by simp only [decide_eq_true_eq] at *; exact bs_le_trans h1 h2) (fun a b=>by simpa using bs_total a b) l
 exact this.imp fun h=>by simpa using h
theorem eq_drop {l m:List BS} {i:Nat} (h1:i < l.length) (h2:i < m.length):(l.drop i = m.drop i) ↔ l[i] = m[i] ∧ l.drop (i + 1) = m.drop (i + 1):=by
 rw [drop_at h1,drop_at h2,List.cons.injEq]
theorem same_l {L:Nat → Int → Option (Sum Unit Bool)} (l m:List BS) (hlm:l.length = m.length) (hl:l.length < 10000)
  (hs:∀ k i (h:i < l.length) (h':i < m.length),L (k + 1) (i:Int) = if (!(l[i] == m[i])) = true then some (.inr false) else L k (IntKind.wrap .i64 ((i:Int) + 1)))
  (he:∀ k,L (k + 1) (l.length:Int) = some (.inl ())):∀ k i,i ≤ l.length → l.length - i < k → L k (i:Int) = some (if l.drop i = m.drop i then .inl () else .inr false)
 | 0,i,_,h=>by omega
 | k + 1,i,h1,h2=>by
  by_cases h:i < l.length
  ·have h':i < m.length:=by omega
   rw [hs k i h h']
   simp only [eq_drop h h']
   by_cases e:l[i] = m[i]
   ·simp only [e,beq_self_eq_true,Bool.not_true,Bool.false_eq_true,if_false,true_and]
    rw [wrap_s i (by omega)]
    exact same_l l m hlm hl hs he k (i + 1) (by omega) (by omega)
   ·simp [e]
  ·have:i = l.length:=by omega
   subst this
   rw [he,List.drop_eq_nil_of_le (Nat.le_refl _),List.drop_eq_nil_of_le (by omega),if_pos rfl]
theorem ref02_Same_eq (n:Nat) (l m:List BS) (hl:l.length < 10000) (hn:100000 ≤ n):ref02_Same n l m = some (decide (l = m)):=by
 unfold ref02_Same
 by_cases hlm:l.length = m.length
 ·have e:((List.length l:Int) != (List.length m:Int)) = false:=by simp [hlm]
  have:=same_l (L:=ref02_Same_l1 n l m) l m hlm hl
   (fun k i h h'=>by rw [ref02_Same_l1,if_pos (lt_i h),if_pos (in_i h),if_pos (in_i h'),at_i h,at_i h'])
   (fun k=>by rw [ref02_Same_l1,nlt_n]; rfl) n 0 (by omega) (by omega)
  rw [e,if_neg Bool.false_ne_true,show (0:Int) = ((0:Nat):Int) from rfl,this,List.drop_zero,List.drop_zero]
  by_cases h:l = m
  ·rw [if_pos h,decide_eq_true h]; rfl
  ·rw [if_neg h,decide_eq_false h]; rfl
 ·have e:((List.length l:Int) != (List.length m:Int)) = true:=by simpa using fun h=>hlm (by omega)
  rw [e,if_pos rfl,decide_eq_false (fun h=>hlm (congrArg List.length h))]
def toM {α:Type} (kf:α → MK) (l:List α):List (MK × α):=l.map fun v=>(kf v,v)
def repl {α:Type} (kf:α → MK):List α → α → List α
 | [],_=>[]
 | u :: r,v=>if kf u = kf v then v :: r else u :: repl kf r v
theorem look_toM {α:Type} (kf:α → MK) (x:MK):∀ l:List α,mlook (toM kf l) x = l.find? fun v=>decide (kf v = x)
 | []=>rfl
 | u :: r=>by
  show (if kf u = x then some u else mlook (toM kf r) x) = _
  rw [List.find?_cons,look_toM kf x r]
  by_cases h:kf u = x
  ·rw [if_pos h,decide_eq_true h]
  ·rw [if_neg h,decide_eq_false h]
theorem put_new {α:Type} (kf:α → MK) (v:α):∀ l:List α,(l.find? fun u=>decide (kf u = kf v)) = none → mput (toM kf l) (kf v) v = toM kf (l ++ [v])
 | [],_=>rfl
 | u :: r,h=>by
  rw [List.find?_cons] at h
  by_cases hu:kf u = kf v
  ·rw [decide_eq_true hu] at h; cases h
  ·rw [decide_eq_false hu] at h
   show (if kf u = kf v then _ else (kf u,u) :: mput (toM kf r) (kf v) v) = _
   rw [if_neg hu,put_new kf v r h]; rfl
theorem put_old {α:Type} (kf:α → MK) (v:α):∀ l:List α,(l.find? fun u=>decide (kf u = kf v)).isSome = true → mput (toM kf l) (kf v) v = toM kf (repl kf l v)
 | [],h=>by cases h
 | u :: r,h=>by
  rw [List.find?_cons] at h
  by_cases hu:kf u = kf v
  ·show (if kf u = kf v then (kf v,v) :: toM kf r else _) = _
   rw [if_pos hu]; unfold repl; rw [if_pos hu]; rfl
  ·rw [decide_eq_false hu] at h
   show (if kf u = kf v then _ else (kf u,u) :: mput (toM kf r) (kf v) v) = _
   rw [if_neg hu,put_old kf v r h,show repl kf (u :: r) v = u :: repl kf r v from by rw [repl,if_neg hu]]; rfl
def dele {α:Type} (kf:α → MK) (x:MK):List α → List α
 | []=>[]
 | u :: r=>if kf u = x then r else u :: dele kf x r
theorem del_toM {α:Type} (kf:α → MK) (x:MK):∀ l:List α,mdel (toM kf l) x = toM kf (dele kf x l)
 | []=>rfl
 | u :: r=>by
  show (if kf u = x then toM kf r else (kf u,u) :: mdel (toM kf r) x) = _
  unfold dele
  by_cases h:kf u = x
  ·rw [if_pos h,if_pos h]
  ·rw [if_neg h,if_neg h,del_toM kf x r]; rfl
theorem len_toM {α:Type} (kf:α → MK) (l:List α):(toM kf l).length = l.length:=by simp [toM]
theorem dele_sub {α:Type} (kf:α → MK) (x:MK):∀ l:List α,(dele kf x l).Sublist l
 | []=>.slnil
 | u :: r=>by
  unfold dele
  split
  ·exact .cons _ (List.Sublist.refl _)
  ·exact (dele_sub kf x r).cons_cons u
theorem repl_map {α β:Type} (kf:α → MK) (v:α) (f:α → β):∀ (l:List α),(∀ u ∈ l,kf u = kf v → f u = f v) → (repl kf l v).map f = l.map f
 | [],_=>rfl
 | u :: r,h=>by
  unfold repl
  split
  ·rename_i hu
   rw [List.map_cons,List.map_cons,h u List.mem_cons_self hu]
  ·rw [List.map_cons,List.map_cons,repl_map kf v f r fun x hx=>h x (List.mem_cons_of_mem _ hx)]
theorem find_key {α:Type} (kf:α → MK) {l:List α} (hn:(l.map kf).Nodup) {v:α} (hv:v ∈ l):(l.find? fun u=>decide (kf u = kf v)) = some v:=by
 induction l with
 | nil=>cases hv
 | cons u r ih =>
  rw [List.find?_cons]
  by_cases hu:kf u = kf v
  ·rw [decide_eq_true hu]
   rcases List.mem_cons.1 hv with rfl | hv
   ·rfl
   ·rw [List.map_cons,List.nodup_cons] at hn
    exact absurd (hu ▸ List.mem_map_of_mem hv) hn.1
  ·rw [decide_eq_false hu]
   rcases List.mem_cons.1 hv with rfl | hv
   ·exact absurd rfl hu
   ·rw [List.map_cons,List.nodup_cons] at hn
    exact ih hn.2 hv
theorem find_none {α:Type} (kf:α → MK) {l:List α} {x:MK} (h:x ∉ l.map kf):(l.find? fun u=>decide (kf u = x)) = none:=by
 rw [List.find?_eq_none]
 intro u hu hd
 exact h (by rw [← of_decide_eq_true hd]; exact List.mem_map_of_mem hu)
theorem roundAll_any {β X:Type} [DecidableEq X] (round:β → Option (Unit ⊕ X)) (p:β → Bool) (x:X):∀ l:List β,(∀ e ∈ l,round e = some (if p e = true then .inr x else .inl ())) → roundAll round l = some (if l.any p = true then .inr x else .inl ())
 | [],_=>rfl
 | e :: l,h=>by
  unfold roundAll
  rw [h e List.mem_cons_self,Option.bind_some,roundAll_any round p x l fun e he=>h e (List.mem_cons_of_mem _ he),Option.bind_some,List.any_cons]
  cases p e <;> cases l.any p <;> simp
abbrev kI:S_life_Box → MK:=fun b=>.inr b.f_Id
abbrev kN:S_api_Kept → MK:=fun k=>.inl k.f_Name
def mkS (bs:List S_life_Box) (ns vs:List S_api_Kept) (last:Int):S_store_Store:=⟨toM kI bs,toM kN ns,toM kN vs,last⟩
def seenB (b:S_life_Box):S_api_Container:=⟨b.f_Id,b.f_Spec,b.f_State,b.f_Code,if (b.f_State == 2) = true then b.f_Probe.f_Health else 0,b.f_Runs⟩
theorem seen_eq (b:S_life_Box):life_Seen b = seenB b:=by
 unfold life_Seen life_Seen_j1 seenB lett
 by_cases h:(b.f_State == 2) = true
 ·rw [if_pos h,if_pos h]
 ·rw [if_neg h,if_neg h]
theorem clone_eq (n:Nat) (l:List BS) (h:l.length ≤ 1000000):slices_Clone_string_string n l = some l:=by
 unfold slices_Clone_string_string
 rw [if_pos (cap_add (by simp; omega))]; rfl
theorem index_eq (n:Nat) (l:List BS) (x:BS) (hl:l.length < 90000) (hn:100000 ≤ n):slices_Index_string_string n l x = some (match l.findIdx? (· == x) with | some i=>(i:Int) | none=>-1):=by
 unfold slices_Index_string_string
 have:=scanI (L:=slices_Index_string_string_l1 n l x (List.length l:Int) ) l (fun i y=>if (x == y) = true then some (i:Int) else none) 0 (by omega)
  (fun k i h _=>by
   rw [slices_Index_string_string_l1,if_pos (lt_i h),if_pos (in_i h),at_i h]
   cases hc:(x == l[i]) <;> simp)
  (fun k=>by rw [slices_Index_string_string_l1,nlt_n]; rfl) n 0 (by omega) (by omega) (by omega)
 have this:slices_Index_string_string_l1 n l x (List.length l:Int) n 0 = _:=this
 rw [this,List.drop_zero]
 have key:∀ (l:List BS) (i:Nat),findI (fun i y=>if (x == y) = true then some (i:Int) else none) i l = (l.findIdx? (· == x)).map fun j=>((i + j:Nat):Int):=by
  intro l
  induction l with
  | nil=>intro i; rfl
  | cons y l ih =>
   intro i
   unfold findI
   rw [List.findIdx?_cons]
   have hxy:(x == y) = (y == x):=by rw [Bool.eq_iff_iff,beq_iff_eq,beq_iff_eq,eq_comm]
   rw [hxy]
   cases hc:(y == x) with
   | true=>simp
   | false =>
    simp only [Bool.false_eq_true,if_false,ih (i + 1),Option.map_map]
    congr 1
    funext j
    simp only [Function.comp]
    omega
 rw [key]
 cases l.findIdx? (· == x) <;> simp [Option.bind]
theorem in_eq (n:Nat) (l:List BS) (x:BS) (hl:l.length < 90000) (hn:100000 ≤ n):name_In n l x = some (l.contains x):=by
 unfold name_In slices_Contains_string_string
 rw [index_eq n l x hl hn,Option.bind_some,Option.bind_some]
 congr 1
 cases h:l.findIdx? (· == x) with
 | some i =>
  simp only
  rw [List.findIdx?_eq_some_iff_getElem] at h
  obtain ⟨hi,h1,_⟩:=h
  have:l.contains x = true:=by
   rw [List.contains_iff_mem]
   rw [← (beq_iff_eq.1 h1)]; exact List.getElem_mem hi
  rw [this]; simp
 | none =>
  simp only
  rw [List.findIdx?_eq_none_iff] at h
  have:l.contains x = false:=by
   rw [← Bool.not_eq_true,List.contains_iff_mem]
   intro hm
   have:=h x hm
   simp at this
  rw [this]; rfl
theorem has_eq (n:Nat) (l:List BS) (m:List (MK × S_api_Kept)) (hl:l.length < 90000) (hn:100000 ≤ n):store_shelf_has__m0 n l m = some (l.all fun s=>(mlook m (.inl s)).isSome,m):=by
 unfold store_shelf_has__m0 slices_ContainsFunc_string_string__store_shelf_has_1_o0 slices_IndexFunc_string_string__store_shelf_has_1_o0
 have key:∀ (k i:Nat),i ≤ l.length → l.length - i < k → slices_IndexFunc_string_string__store_shelf_has_1_o0_l1 n l (List.length l:Int) k (i:Int) m =
   some (match (l.drop i).findIdx? (fun s=>!(mlook m (.inl s)).isSome) with | some j=>.inr (((i + j:Nat):Int),m) | none=>.inl m):=by
  intro k
  induction k with
  | zero=>intro i _ h; omega
  | succ k ih =>
   intro i h1 h2
   rw [slices_IndexFunc_string_string__store_shelf_has_1_o0_l1]
   by_cases h:i < l.length
   ·rw [if_pos (lt_i h),if_pos (in_i h),at_i h,drop_at h,List.findIdx?_cons]
    unfold store_shelf_has_1__o0
    simp only [lett]
    cases hc:(!(mlook m (.inl l[i])).isSome) with
    | true=>simp
    | false =>
     simp only [Bool.false_eq_true,if_false]
     rw [wrap_s i (by omega),ih (i + 1) (by omega) (by omega)]
     cases (l.drop (i + 1)).findIdx? _ with
     | none=>rfl
     | some j=>simp; omega
   ·have:i = l.length:=by omega
    subst this
    rw [nlt_n,List.drop_eq_nil_of_le (Nat.le_refl _)]; rfl
 have:=key n 0 (by omega) (by omega)
 have this:slices_IndexFunc_string_string__store_shelf_has_1_o0_l1 n l (List.length l:Int) n 0 m = _:=this
 rw [this,List.drop_zero,Option.bind_some]
 cases h:l.findIdx? (fun s=>!(mlook m (.inl s)).isSome) with
 | some i =>
  rw [List.findIdx?_eq_some_iff_getElem] at h
  obtain ⟨hi,h1,_⟩:=h
  have:(l.all fun s=>(mlook m (.inl s)).isSome) = false:=by
   rw [← Bool.not_eq_true,List.all_eq_true]
   intro hall
   have:=hall _ (List.getElem_mem hi)
   rw [this] at h1; cases h1
  rw [this]
  simp [Option.bind]
 | none =>
  rw [List.findIdx?_eq_none_iff] at h
  have:(l.all fun s=>(mlook m (.inl s)).isSome) = true:=by
   rw [List.all_eq_true]
   intro s hs
   simpa using h s hs
  rw [this]
  simp [Option.bind]
theorem has_toM (n:Nat) (l:List BS) (ns:List S_api_Kept) (hl:l.length < 90000) (hn:100000 ≤ n):store_shelf_has__m0 n l (toM kN ns) = some (l.all fun s=>(ns.map (·.f_Name)).contains s,toM kN ns):=by
 rw [has_eq n l _ hl hn]
 have:(fun s:BS=>(mlook (toM kN ns) (.inl s)).isSome) = fun s=>(ns.map (·.f_Name)).contains s:=by
  funext s
  rw [look_toM,Bool.eq_iff_iff,List.find?_isSome,List.contains_iff_mem]
  simp [kN]
 rw [this]
abbrev nms (l:List S_api_Kept):List BS:=l.map (·.f_Name)
def putP (c:S_api_Call) (l:List S_api_Kept):Int × List S_api_Kept :=
 if c.f_Name = [] ∨ 64 < c.f_Name.length then (2,l) else if (nms l).contains c.f_Name = true then (11,l) else if 32 ≤ l.length then (14,l) else (0,l ++ [⟨c.f_Name,c.f_Spec.f_Project⟩])
theorem look_nms (l:List S_api_Kept) (s:BS):(mlook (toM kN l) (.inl s)).isSome = (nms l).contains s:=by
 rw [look_toM,Bool.eq_iff_iff,List.find?_isSome,List.contains_iff_mem]
 simp [kN]
theorem put_eq (c:S_api_Call) (l:List S_api_Kept):store_put__m0 c (toM kN l) = ((putP c l).1,toM kN (putP c l).2):=by
 unfold store_put__m0 putP
 rw [look_nms,len_toM]
 have e1:(bif c.f_Name == [] then true else decide ((List.length c.f_Name:Int) > 64)) = decide (c.f_Name = [] ∨ 64 < c.f_Name.length):=by
  rw [Bool.eq_iff_iff]
  simp only [Bool.cond_true_left,Bool.or_eq_true,decide_eq_true_eq,beq_iff_eq]
  constructor <;> rintro (h | h) <;> first | exact .inl h | (right; omega)
 rw [e1]
 by_cases h1:c.f_Name = [] ∨ 64 < c.f_Name.length
 ·rw [if_pos (decide_eq_true h1),if_pos h1]
 ·rw [if_neg (by simpa using h1),if_neg h1]
  by_cases h2:(nms l).contains c.f_Name = true
  ·rw [if_pos h2,if_pos h2]
  ·rw [if_neg h2,if_neg h2]
   by_cases h3:32 ≤ l.length
   ·rw [if_pos (by simp; omega),if_pos h3]
   ·rw [if_neg (by simp; omega),if_neg h3]
    have:=put_new kN (⟨c.f_Name,c.f_Spec.f_Project⟩:S_api_Kept) l (find_none kN (by
     rw [List.contains_iff_mem] at h2
     intro h; apply h2
     obtain ⟨k,h4,h5⟩:=List.mem_map.1 h
     simp only [kN,Sum.inl.injEq] at h5
     exact List.mem_map.2 ⟨k,h4,h5⟩))
    rw [← this]
def dropP (named:S_api_Spec → List BS) (bs:List S_life_Box) (s:BS) (l:List S_api_Kept):Int × List S_api_Kept :=
 if (nms l).contains s = false then (12,l) else if (bs.any fun b=>(named b.f_Spec).contains s) = true then (17,l) else (0,dele kN (.inl s) l)
theorem drop_any (n:Nat) (named:S_api_Spec → List BS) (s:BS) (bs:List S_life_Box) (round:MK × S_life_Box → Option (Unit ⊕ Int)) (hr:∀ x,round x = (name_In n (named x.2.f_Spec) s).bind fun r2=>if r2 = true then some (.inr 17) else some (.inl ())) (hb:∀ b ∈ bs,(named b.f_Spec).length < 90000) (hn:100000 ≤ n) :
  roundAll round (toM kI bs) = some (if (bs.any fun b=>(named b.f_Spec).contains s) = true then .inr 17 else .inl ()):=by
 rw [roundAll_any round (fun x=>(named x.2.f_Spec).contains s) 17 (toM kI bs)]
 ·congr 2
  simp [toM,List.any_map,Function.comp_def]
 ·intro e he
  obtain ⟨b,h1,rfl⟩:=List.mem_map.1 he
  rw [hr,in_eq n _ s (hb b h1) hn,Option.bind_some]
  cases (named b.f_Spec).contains s <;> rfl
theorem dropN_eq (n:Nat) (s:BS) (bs:List S_life_Box) (ns vs:List S_api_Kept) (last:Int) (hb:∀ b ∈ bs,b.f_Spec.f_Nets.length < 90000) (hn:100000 ≤ n) :
  store_Store_drop__o0__m0n61__store_Store_Do_1 n s (mkS bs ns vs last) = some ((dropP (·.f_Nets) bs s ns).1,mkS bs (dropP (·.f_Nets) bs s ns).2 vs last):=by
 unfold store_Store_drop__o0__m0n61__store_Store_Do_1 dropP
 show (if (!((mlook (toM kN ns) (.inl s)).isSome)) = true then _ else (roundAll _ (toM kI bs)).bind _) = _
 rw [look_nms]
 cases h1:(nms ns).contains s with
 | false=>rw [if_pos (by rfl),if_pos rfl]
 | true =>
  rw [if_neg (by decide),if_neg (by decide),drop_any n (·.f_Nets) s bs (store_Store_drop__o0__m0n61__store_Store_Do_1_m1 n s (mkS bs ns vs last)) (fun x=>rfl) hb hn,Option.bind_some]
  cases h2:bs.any fun b=>b.f_Spec.f_Nets.contains s with
  | true=>simp [mkS]
  | false =>
   simp only [Bool.false_eq_true,if_false,Sum.elim_inl]
   show some ((0:Int),(S_store_Store.mk (toM kI bs) (mdel (toM kN ns) (.inl s)) (toM kN vs) last)) = _
   rw [del_toM]; rfl
theorem dropV_eq (n:Nat) (s:BS) (bs:List S_life_Box) (ns vs:List S_api_Kept) (last:Int) (hb:∀ b ∈ bs,b.f_Spec.f_Vols.length < 90000) (hn:100000 ≤ n) :
  store_Store_drop__o0__m0n62__store_Store_Do_2 n s (mkS bs ns vs last) = some ((dropP (·.f_Vols) bs s vs).1,mkS bs ns (dropP (·.f_Vols) bs s vs).2 last):=by
 unfold store_Store_drop__o0__m0n62__store_Store_Do_2 dropP
 show (if (!((mlook (toM kN vs) (.inl s)).isSome)) = true then _ else (roundAll _ (toM kI bs)).bind _) = _
 rw [look_nms]
 cases h1:(nms vs).contains s with
 | false=>rw [if_pos (by rfl),if_pos rfl]
 | true =>
  rw [if_neg (by decide),if_neg (by decide),drop_any n (·.f_Vols) s bs (store_Store_drop__o0__m0n62__store_Store_Do_2_m1 n s (mkS bs ns vs last)) (fun x=>rfl) hb hn,Option.bind_some]
  cases h2:bs.any fun b=>b.f_Spec.f_Vols.contains s with
  | true=>simp [mkS]
  | false =>
   simp only [Bool.false_eq_true,if_false,Sum.elim_inl]
   show some ((0:Int),(S_store_Store.mk (toM kI bs) (toM kN ns) (mdel (toM kN vs) (.inl s)) last)) = _
   rw [del_toM]; rfl
structure PS where
 bs:List S_life_Box
 ns:List S_api_Kept
 vs:List S_api_Kept
 last:Int
abbrev PS.toS (p:PS):S_store_Store:=mkS p.bs p.ns p.vs p.last
def makeP (sp:S_api_Spec) (p:PS):Int × Int × PS :=
 if sp.f_Name = [] ∨ 128 < sp.f_Name.length then (0,2,p) else
 if (p.bs.any fun b=>b.f_Spec.f_Name == sp.f_Name) = true then (0,11,p) else
 if ((sp.f_Nets.all fun s=>(nms p.ns).contains s) && (sp.f_Vols.all fun s=>(nms p.vs).contains s)) = false then (0,12,p) else
 if 64 ≤ p.bs.length then (0,14,p) else (p.last + 1,0,⟨p.bs ++ [life_New (p.last + 1) sp],p.ns,p.vs,p.last + 1⟩)
theorem wrap_last {x:Int} (h0:0 ≤ x) (h1:x ≤ 1000):IntKind.wrap .i64 (x + 1) = x + 1:=by
 obtain ⟨m,rfl⟩:=Int.eq_ofNat_of_zero_le h0
 rw [wrap_s m (by omega)]; rfl
theorem make_eq (n:Nat) (sp:S_api_Spec) (p:PS) (h0:0 ≤ p.last) (h1:p.last ≤ 1000) (hb:∀ b ∈ p.bs,b.f_Id ≤ p.last) (hn1:sp.f_Nets.length ≤ 10) (hn2:sp.f_Vols.length ≤ 10) (hn:100000 ≤ n) :
  store_Store_make__o0 n sp p.toS = some ((makeP sp p).1,(makeP sp p).2.1,(makeP sp p).2.2.toS):=by
 unfold store_Store_make__o0 makeP
 have e1:(bif sp.f_Name == [] then true else decide ((List.length sp.f_Name:Int) > 128)) = decide (sp.f_Name = [] ∨ 128 < sp.f_Name.length):=by
  rw [Bool.eq_iff_iff]
  simp only [Bool.cond_true_left,Bool.or_eq_true,decide_eq_true_eq,beq_iff_eq]
  constructor <;> rintro (h | h) <;> first | exact .inl h | (right; omega)
 rw [e1]
 by_cases c1:sp.f_Name = [] ∨ 128 < sp.f_Name.length
 ·rw [if_pos (decide_eq_true c1),if_pos c1]
 rw [if_neg (by simpa using c1),if_neg c1]
 have hr:roundAll (store_Store_make__o0_m1 n sp p.toS) p.toS.f_boxes = some (if (p.bs.any fun b=>b.f_Spec.f_Name == sp.f_Name) = true then .inr (0,11) else .inl ()):=by
  show roundAll (store_Store_make__o0_m1 n sp p.toS) (toM kI p.bs) = _
  rw [roundAll_any (store_Store_make__o0_m1 n sp p.toS) (fun x=>x.2.f_Spec.f_Name == sp.f_Name) (0,11) (toM kI p.bs)]
  ·congr 2
   simp [toM,List.any_map,Function.comp_def]
  ·intro e _
   unfold store_Store_make__o0_m1
   split <;> rfl
 rw [hr,Option.bind_some]
 by_cases c2:(p.bs.any fun b=>b.f_Spec.f_Name == sp.f_Name) = true
 ·rw [if_pos c2,if_pos c2]; rfl
 rw [if_neg c2,if_neg c2]
 show (store_shelf_has__m0 n sp.f_Nets (toM kN p.ns)).bind _ = _
 rw [has_toM n _ _ (by omega) hn,Option.bind_some]
 cases c3:sp.f_Nets.all fun s=>(nms p.ns).contains s with
 | false=>rfl
 | true =>
  show (store_shelf_has__m0 n sp.f_Vols (toM kN p.vs)).bind _ = _
  rw [has_toM n _ _ (by omega) hn,Option.bind_some]
  cases c4:sp.f_Vols.all fun s=>(nms p.vs).contains s with
  | false=>rfl
  | true =>
   rw [if_neg (by simp),if_neg (show ¬ (true && true) = false by decide)]
   show (if decide ((List.length (toM kI p.bs):Int) ≥ 64) = true then _ else _) = _
   rw [len_toM]
   by_cases c5:64 ≤ p.bs.length
   ·rw [if_pos (by simp; omega),if_pos c5]; rfl
   ·rw [if_neg (by simp; omega),if_neg c5,clone_eq n _ (by omega),Option.bind_some,clone_eq n _ (by omega),Option.bind_some]
    show some (IntKind.wrap .i64 (p.last + 1),(0:Int),S_store_Store.mk (mput (toM kI p.bs) (.inr (IntKind.wrap .i64 (p.last + 1))) (life_New (IntKind.wrap .i64 (p.last + 1)) sp)) _ _ (IntKind.wrap .i64 (p.last + 1))) = _
    rw [wrap_last h0 h1,show mput (toM kI p.bs) (.inr (p.last + 1)) (life_New (p.last + 1) sp) = toM kI (p.bs ++ [life_New (p.last + 1) sp]) from put_new kI (life_New (p.last + 1) sp) p.bs (find_none kI (by
     intro h
     obtain ⟨b,h4,h5⟩:=List.mem_map.1 h
     have:=hb b h4
     simp only [kI,life_New,Sum.inr.injEq] at h5
     omega))]
    rfl
theorem start_id (b:S_life_Box) (now:Int):(life_Start b now).1.f_Id = b.f_Id ∧ (life_Start b now).1.f_Spec = b.f_Spec:=by
 unfold life_Start lett
 split
 ·exact ⟨rfl,rfl⟩
 ·exact ⟨rfl,rfl⟩
theorem stop_id (b:S_life_Box):(life_Stop b).1.f_Id = b.f_Id ∧ (life_Stop b).1.f_Spec = b.f_Spec:=by
 unfold life_Stop life_Stop_j1 lett
 split
 ·exact ⟨rfl,rfl⟩
 ·split <;> exact ⟨rfl,rfl⟩
def setP (id:Int) (p:PS) (r:S_life_Box × Int):Int × Int × PS :=
 if r.2 ≠ 0 then (0,r.2,p) else (id,0,⟨repl kI p.bs r.1,p.ns,p.vs,p.last⟩)
def changeP (c:S_api_Call) (now:Int) (p:PS):Int × Int × PS :=
 match p.bs.find? fun b=>decide (kI b = .inr c.f_Id) with
 | none=>(0,12,p)
 | some b =>
  if c.f_Kind = 6 then setP c.f_Id p (life_Start b now) else
  if c.f_Kind = 7 then setP c.f_Id p (life_Stop b) else
  if b.f_State = 2 then (0,13,p) else (c.f_Id,0,⟨dele kI (.inr c.f_Id) p.bs,p.ns,p.vs,p.last⟩)
theorem put_set (id:Int) (p:PS) (b v:S_life_Box) (hf:(p.bs.find? fun b=>decide (kI b = .inr id)) = some b) (hv:v.f_Id = b.f_Id) :
  S_store_Store.mk (mput (toM kI p.bs) (.inr id) v) (toM kN p.ns) (toM kN p.vs) p.last = mkS (repl kI p.bs v) p.ns p.vs p.last:=by
 have hk:kI b = .inr id:=of_decide_eq_true (List.find?_some (p:=fun b=>decide (kI b = .inr id)) hf)
 have hk2:(Sum.inr id:MK) = kI v:=by rw [← hk]; simp only [kI,hv]
 rw [hk2] at hf
 rw [hk2,put_old kI v p.bs (by rw [hf]; rfl)]; rfl
theorem change_eq (c:S_api_Call) (now:Int) (p:PS):store_Store_change__o0 c now p.toS = ((changeP c now p).1,(changeP c now p).2.1,(changeP c now p).2.2.toS):=by
 unfold store_Store_change__o0 changeP
 have e:mlook p.toS.f_boxes (.inr c.f_Id) = p.bs.find? fun b=>decide (kI b = .inr c.f_Id):=look_toM kI _ p.bs
 rw [e]
 cases hf:p.bs.find? fun b=>decide (kI b = .inr c.f_Id) with
 | none=>rfl
 | some b =>
  rw [if_neg (by simp)]
  show lett (store_Store_change__o0_j1 now c.f_Kind c b p.toS) _ = _
  unfold store_Store_change__o0_j1
  by_cases k6:c.f_Kind = 6
  ·rw [if_pos (by simpa using k6)]
   simp only [lett,Sum.elim_inl]
   rw [if_pos k6]
   unfold setP
   by_cases r:(life_Start b now).2 = 0
   ·rw [if_neg (by simp [r]),if_neg (by simp [r])]
    show (c.f_Id,(0:Int),S_store_Store.mk (mput (toM kI p.bs) (.inr c.f_Id) (life_Start b now).1) (toM kN p.ns) (toM kN p.vs) p.last) = _
    rw [put_set c.f_Id p b _ hf (start_id b now).1]
   ·rw [if_pos (by simpa using r),if_pos r]
  ·rw [if_neg (by simpa using k6)]
   by_cases k7:c.f_Kind = 7
   ·rw [if_pos (by simpa using k7)]
    simp only [lett,Sum.elim_inl]
    rw [if_neg k6,if_pos k7]
    unfold setP
    by_cases r:(life_Stop b).2 = 0
    ·rw [if_neg (by simp [r]),if_neg (by simp [r])]
     show (c.f_Id,(0:Int),S_store_Store.mk (mput (toM kI p.bs) (.inr c.f_Id) (life_Stop b).1) (toM kN p.ns) (toM kN p.vs) p.last) = _
     rw [put_set c.f_Id p b _ hf (stop_id b).1]
    ·rw [if_pos (by simpa using r),if_pos r]
   ·rw [if_neg (by simpa using k7)]
    by_cases s2:b.f_State = 2
    ·rw [if_pos (by simpa using s2)]
     simp only [lett,Sum.elim_inr]
     rw [if_neg k6,if_neg k7,if_pos s2]
    ·rw [if_neg (by simpa using s2)]
     simp only [lett,Sum.elim_inr]
     rw [if_neg k6,if_neg k7,if_neg s2]
     show (c.f_Id,(0:Int),S_store_Store.mk (mdel (toM kI p.bs) (.inr c.f_Id)) (toM kN p.ns) (toM kN p.vs) p.last) = _
     rw [del_toM]; rfl
def stepP (c:S_api_Call) (now:Int) (p:PS):Int × Int × PS :=
 if c.f_Kind = 1 then (0,(putP c p.ns).1,⟨p.bs,(putP c p.ns).2,p.vs,p.last⟩) else
 if c.f_Kind = 2 then (0,(putP c p.vs).1,⟨p.bs,p.ns,(putP c p.vs).2,p.last⟩) else
 if c.f_Kind = 3 then (0,(dropP (·.f_Nets) p.bs c.f_Name p.ns).1,⟨p.bs,(dropP (·.f_Nets) p.bs c.f_Name p.ns).2,p.vs,p.last⟩) else
 if c.f_Kind = 4 then (0,(dropP (·.f_Vols) p.bs c.f_Name p.vs).1,⟨p.bs,p.ns,(dropP (·.f_Vols) p.bs c.f_Name p.vs).2,p.last⟩) else
 if c.f_Kind = 5 then makeP c.f_Spec p else
 if c.f_Kind = 6 ∨ c.f_Kind = 7 ∨ c.f_Kind = 8 then changeP c now p else (0,2,p)
structure Inv (k:Nat) (p:PS):Prop where
 asc:(p.bs.map (·.f_Id)).Pairwise (· < ·)
 ids:∀ b ∈ p.bs,1 ≤ b.f_Id ∧ b.f_Id ≤ p.last
 last0:0 ≤ p.last
 lastk:p.last ≤ k
 boxes:p.bs.length ≤ 64
 nets:p.ns.length ≤ 32
 vols:p.vs.length ≤ 32
 nnod:(nms p.ns).Nodup
 vnod:(nms p.vs).Nodup
 nlen:∀ x ∈ p.ns,x.f_Name.length ≤ 64
 vlen:∀ x ∈ p.vs,x.f_Name.length ≤ 64
 bnod:(p.bs.map (·.f_Spec.f_Name)).Nodup
 few:∀ b ∈ p.bs,b.f_Spec.f_Nets.length ≤ 10 ∧ b.f_Spec.f_Vols.length ≤ 10
 nin:∀ b ∈ p.bs,∀ s ∈ b.f_Spec.f_Nets,s ∈ nms p.ns
 vin:∀ b ∈ p.bs,∀ s ∈ b.f_Spec.f_Vols,s ∈ nms p.vs
theorem Do_eq (n:Nat) (c:S_api_Call) (now:Int) {k:Nat} {p:PS} (hi:Inv k p) (hk:k ≤ 1000) (h1:c.f_Spec.f_Nets.length ≤ 10) (h2:c.f_Spec.f_Vols.length ≤ 10) (hn:100000 ≤ n) :
  store_Store_Do__o0 n c now p.toS = some ((stepP c now p).1,(stepP c now p).2.1,(stepP c now p).2.2.toS):=by
 unfold store_Store_Do__o0 store_Store_Do__o0_j1 stepP
 by_cases k1:c.f_Kind = 1
 ·rw [if_pos (by simpa using k1),if_pos k1,show p.toS.f_nets = toM kN p.ns from rfl,put_eq]; rfl
 rw [if_neg (by simpa using k1),if_neg k1]
 by_cases k2:c.f_Kind = 2
 ·rw [if_pos (by simpa using k2),if_pos k2,show p.toS.f_vols = toM kN p.vs from rfl,put_eq]; rfl
 rw [if_neg (by simpa using k2),if_neg k2]
 by_cases k3:c.f_Kind = 3
 ·rw [if_pos (by simpa using k3),if_pos k3,dropN_eq n _ _ _ _ _ (fun b hb=>by have:=hi.few b hb; omega) hn]; rfl
 rw [if_neg (by simpa using k3),if_neg k3]
 by_cases k4:c.f_Kind = 4
 ·rw [if_pos (by simpa using k4),if_pos k4,dropV_eq n _ _ _ _ _ (fun b hb=>by have:=hi.few b hb; omega) hn]; rfl
 rw [if_neg (by simpa using k4),if_neg k4]
 by_cases k5:c.f_Kind = 5
 ·rw [if_pos (by simpa using k5),if_pos k5,make_eq n _ _ hi.last0 (by have:=hi.lastk; omega) (fun b hb=>(hi.ids b hb).2) h1 h2 hn]; rfl
 rw [if_neg (by simpa using k5),if_neg k5]
 have ej:store_Store_Do__o0_j2 n now c.f_Kind (c.f_Kind == 6) c p.toS = some (decide (c.f_Kind = 6 ∨ c.f_Kind = 7 ∨ c.f_Kind = 8)):=by
  unfold store_Store_Do__o0_j2
  by_cases k6:c.f_Kind = 6
  ·rw [if_pos (by simpa using k6)]; simp [k6]
  rw [if_neg (by simpa using k6)]
  by_cases k7:c.f_Kind = 7
  ·rw [if_pos (by simpa using k7)]; simp [k7]
  rw [if_neg (by simpa using k7)]
  congr 1
  rw [Bool.eq_iff_iff]; simp [k6,k7]
 rw [ej,Option.bind_some]
 by_cases k6:c.f_Kind = 6 ∨ c.f_Kind = 7 ∨ c.f_Kind = 8
 ·rw [if_pos (decide_eq_true k6),if_pos k6,change_eq]; rfl
 ·rw [if_neg (by simpa using k6),if_neg k6]; rfl
theorem strSort_mem {l:List BS} {x:BS}:x ∈ strSort l ↔ x ∈ l:=(List.mergeSort_perm l _).mem_iff
theorem strSort_srt {l:List BS} (h:l.Nodup):strSort l = srt l:=by
 refine Asc.ext ?_ (asc_srt l) fun x=>by rw [strSort_mem,mem_srt]
 have h1:=strSort_sorted l
 have h2:(strSort l).Nodup:=(List.mergeSort_perm l _).nodup_iff.2 h
 exact (h1.and h2).imp fun h=>bs_lt_of_le_of_ne h.1 h.2
def lookK (ns:List S_api_Kept) (s:BS):S_api_Kept:=(mlook (toM kN ns) (.inl s)).getD (S_api_Kept.mk [] [])
def listP (ns:List S_api_Kept):List S_api_Kept:=(srt (nms ns)).map (lookK ns)
theorem keysS_eq {ns:List S_api_Kept} (h:(nms ns).Nodup):keysS (toM kN ns) = srt (nms ns):=by
 unfold keysS
 rw [← strSort_srt h]
 congr 1
 simp [toM,nms,Function.comp_def,keyStr,kN]
theorem list_eq (n:Nat) (ns:List S_api_Kept) (hd:(nms ns).Nodup) (hl:ns.length ≤ 1000) (hx:∀ x ∈ ns,x.f_Name.length ≤ 1000) (hn:100000 ≤ n) :
  store_shelf_list__m0 n (toM kN ns) = some (listP ns,toM kN ns):=by
 unfold store_shelf_list__m0
 have ok:keysOkS (toM kN ns) = true:=by
  unfold keysOkS
  rw [len_toM,decide_eq_true (show ns.length * 17 ≤ limit by show _ ≤ 140737488355328; omega),Bool.true_and,List.all_eq_true]
  intro x h
  obtain ⟨k,h1,rfl⟩:=List.mem_map.1 h
  exact decide_eq_true (by have:=hx k h1; show k.f_Name.length ≤ 140737488355328; omega)
 rw [if_pos ok,keysS_eq hd]
 have hs:(srt (nms ns)).length ≤ 1000:=Nat.le_trans (srt_length_le _) (by simpa [nms] using hl)
 have:=gather (L:=store_shelf_list__m0_l1 n (srt (nms ns)) (List.length (srt (nms ns)):Int) (toM kN ns)) (srt (nms ns)) (fun acc s=>acc ++ [lookK ns s]) id (fun i s=>s.length = i) (by omega)
  (fun k s i h hi=>by
   rw [store_shelf_list__m0_l1,if_pos (lt_i h),if_pos (in_i h),at_i h,if_pos (fitsM (by simp only [List.length_cons,List.length_nil]; omega))]; rfl)
  (fun s i h hi=>by simp [hi])
  (fun k s hi=>by rw [store_shelf_list__m0_l1,nlt_n]; rfl) n 0 [] (by omega) (by omega) rfl
 have this:store_shelf_list__m0_l1 n (srt (nms ns)) (List.length (srt (nms ns)):Int) (toM kN ns) n [] 0 = _:=this.1
 rw [this,List.drop_zero,foldl_app (fun s=>[lookK ns s])]
 simp [listP,← List.map_eq_flatMap]
theorem Inv.idnod {k:Nat} {p:PS} (h:Inv k p):(p.bs.map kI).Nodup:=by
 have:=h.asc.imp (S:=fun x y=>x ≠ y) fun h=>by omega
 have e:p.bs.map kI = (p.bs.map (·.f_Id)).map (Sum.inr:Int → MK):=by rw [List.map_map]; rfl
 rw [e]
 exact this.map _ fun a b h h'=>h (Sum.inr.inj h')
theorem Boxes_eq (n:Nat) {k:Nat} {p:PS} (h:Inv k p) (hk:k ≤ 1000) (hn:100000 ≤ n):store_Store_Boxes__o0 n p.toS = some (p.bs.map seenB,p.toS):=by
 unfold store_Store_Boxes__o0
 have ok:keysOkI p.toS.f_boxes = true:=by
  show keysOkI (toM kI p.bs) = true
  unfold keysOkI
  rw [len_toM,decide_eq_true (show p.bs.length * 17 ≤ limit by have:=h.boxes; show _ ≤ 140737488355328; omega),Bool.true_and,List.all_eq_true]
  intro x hx
  obtain ⟨b,h1,rfl⟩:=List.mem_map.1 hx
  have:=h.ids b h1
  have:=h.lastk
  exact decide_eq_true (by show _ ≤ b.f_Id ∧ b.f_Id ≤ _; omega)
 have ek:keysI p.toS.f_boxes = p.bs.map (·.f_Id):=by
  show keysI (toM kI p.bs) = _
  unfold keysI
  have e:(toM kI p.bs).map (fun p=>keyInt p.1) = p.bs.map (·.f_Id):=by simp [toM,Function.comp_def,keyInt,kI]
  rw [e]
  exact List.mergeSort_of_pairwise (h.asc.imp fun h=>decide_eq_true (by omega))
 rw [if_pos ok,ek]
 have hl:(p.bs.map (·.f_Id)).length = p.bs.length:=by simp
 have hb:=h.boxes
 have:=gather (L:=store_Store_Boxes__o0_l1 n (p.bs.map (·.f_Id)) (List.length (p.bs.map (·.f_Id)):Int) p.toS) p.bs (fun acc b=>acc ++ [seenB b]) id (fun i s=>s.length = i) (by omega)
  (fun k s i hi hs=>by
   have hid:(p.bs.map (·.f_Id))[Int.toNat (i:Int)]?.getD 0 = p.bs[i].f_Id:=by rw [at_i (by simpa using hi)]; simp
   have hlk:mlook p.toS.f_boxes (.inr p.bs[i].f_Id) = some p.bs[i]:=(look_toM kI _ p.bs).trans (find_key kI h.idnod (List.getElem_mem hi))
   rw [store_Store_Boxes__o0_l1,if_pos (lt_i (by simpa using hi)),if_pos (in_i (by simpa using hi)),hid,hlk]
   show lett (life_Seen p.bs[i]) _ = _
   have hf:=h.few _ (List.getElem_mem hi)
   rw [seen_eq]
   simp only [lett]
   rw [clone_eq n _ (show (seenB p.bs[i]).f_Spec.f_Nets.length ≤ 1000000 by show p.bs[i].f_Spec.f_Nets.length ≤ _; omega),Option.bind_some,clone_eq n _ (show (seenB p.bs[i]).f_Spec.f_Vols.length ≤ 1000000 by show p.bs[i].f_Spec.f_Vols.length ≤ _; omega),Option.bind_some,if_pos (fitsM (by simp only [List.length_cons,List.length_nil]; omega))])
  (fun s i h hi=>by simp [hi])
  (fun k s hi=>by rw [store_Store_Boxes__o0_l1,hl,nlt_n]; rfl) n 0 [] (by omega) (by omega) rfl
 have this:store_Store_Boxes__o0_l1 n (p.bs.map (·.f_Id)) (List.length (p.bs.map (·.f_Id)):Int) p.toS n [] 0 = _:=this.1
 rw [this,List.drop_zero,foldl_app (fun b=>[seenB b])]
 simp [← List.map_eq_flatMap]
theorem Nets_eq (n:Nat) {k:Nat} {p:PS} (h:Inv k p) (hn:100000 ≤ n):store_Store_Nets__o0 n p.toS = some (listP p.ns,p.toS):=by
 unfold store_Store_Nets__o0
 show (store_shelf_list__m0 n (toM kN p.ns)).bind _ = _
 rw [list_eq n p.ns h.nnod (by have:=h.nets; omega) (fun x hx=>by have:=h.nlen x hx; omega) hn]; rfl
theorem Vols_eq (n:Nat) {k:Nat} {p:PS} (h:Inv k p) (hn:100000 ≤ n):store_Store_Vols__o0 n p.toS = some (listP p.vs,p.toS):=by
 unfold store_Store_Vols__o0
 show (store_shelf_list__m0 n (toM kN p.vs)).bind _ = _
 rw [list_eq n p.vs h.vnod (by have:=h.vols; omega) (fun x hx=>by have:=h.vlen x hx; omega) hn]; rfl
theorem Inv.up {k:Nat} {p:PS} (h:Inv k p):Inv (k + 1) p:={ h with lastk:=by have:=h.lastk; omega }
theorem putP_facts (c:S_api_Call) {l:List S_api_Kept} (h1:l.length ≤ 32) (h2:(nms l).Nodup) (h3:∀ x ∈ l,x.f_Name.length ≤ 64) :
  (putP c l).2.length ≤ 32 ∧ (nms (putP c l).2).Nodup ∧ (∀ x ∈ (putP c l).2,x.f_Name.length ≤ 64) ∧ (∀ s ∈ nms l,s ∈ nms (putP c l).2) ∧ ((putP c l).1 ≠ 0 → (putP c l).2 = l):=by
 unfold putP
 split
 ·exact ⟨h1,h2,h3,fun s h=>h,fun _=>rfl⟩
 split
 ·exact ⟨h1,h2,h3,fun s h=>h,fun _=>rfl⟩
 split
 ·exact ⟨h1,h2,h3,fun s h=>h,fun _=>rfl⟩
 rename_i a1 a2 a3
 refine ⟨by simp; omega,?_,?_,?_,fun h=>absurd rfl h⟩
 ·show (nms (l ++ [_])).Nodup
  rw [nms,List.map_append,List.nodup_append]
  refine ⟨h2,by simp,?_⟩
  intro a ha b hb
  simp only [List.map_cons,List.map_nil,List.mem_singleton] at hb
  subst hb
  rintro rfl
  exact a2 (List.contains_iff_mem.2 ha)
 ·intro x hx
  rcases List.mem_append.1 hx with hx | hx
  ·exact h3 x hx
  ·rw [List.mem_singleton.1 hx]
   show c.f_Name.length ≤ 64
   rw [not_or] at a1; omega
 ·intro s hs
  show s ∈ nms (l ++ [_])
  rw [nms,List.map_append]
  exact List.mem_append_left _ hs
theorem dele_names {s:BS}:∀ {l:List S_api_Kept} {x:BS},x ∈ nms l → x ≠ s → x ∈ nms (dele kN (.inl s) l)
 | [],_,h,_=>h
 | u :: r,x,h,hx=>by
  unfold dele
  by_cases hu:kN u = .inl s
  ·rw [if_pos hu]
   rcases List.mem_cons.1 h with h | h
   ·exact absurd (h.trans (Sum.inl.inj hu)) hx
   ·exact h
  ·rw [if_neg hu]
   rcases List.mem_cons.1 h with h | h
   ·exact List.mem_cons.2 (.inl h)
   ·exact List.mem_cons_of_mem _ (dele_names h hx)
theorem dropP_facts (named:S_api_Spec → List BS) (bs:List S_life_Box) (s:BS) {l:List S_api_Kept} (h1:l.length ≤ 32) (h2:(nms l).Nodup) (h3:∀ x ∈ l,x.f_Name.length ≤ 64) (h4:∀ b ∈ bs,∀ x ∈ named b.f_Spec,x ∈ nms l) :
  (dropP named bs s l).2.length ≤ 32 ∧ (nms (dropP named bs s l).2).Nodup ∧ (∀ x ∈ (dropP named bs s l).2,x.f_Name.length ≤ 64) ∧ (∀ b ∈ bs,∀ x ∈ named b.f_Spec,x ∈ nms (dropP named bs s l).2) ∧ ((dropP named bs s l).1 ≠ 0 → (dropP named bs s l).2 = l):=by
 unfold dropP
 split
 ·exact ⟨h1,h2,h3,h4,fun _=>rfl⟩
 split
 ·exact ⟨h1,h2,h3,h4,fun _=>rfl⟩
 rename_i a1 a2
 have hs:=dele_sub kN (.inl s) l
 refine ⟨Nat.le_trans hs.length_le h1,h2.sublist (hs.map _),fun x hx=>h3 x (hs.subset hx),?_,fun h=>absurd rfl h⟩
 intro b hb x hx
 refine dele_names (h4 b hb x hx) ?_
 rintro rfl
 exact a2 (List.any_eq_true.2 ⟨b,hb,List.contains_iff_mem.2 hx⟩)
theorem Inv.bs_sub {k:Nat} {p:PS} (h:Inv k p) {bs':List S_life_Box} (hs:bs'.Sublist p.bs):Inv k ⟨bs',p.ns,p.vs,p.last⟩ where
 asc:=h.asc.sublist (hs.map _)
 ids:=fun b hb=>h.ids b (hs.subset hb)
 last0:=h.last0
 lastk:=h.lastk
 boxes:=Nat.le_trans hs.length_le h.boxes
 nets:=h.nets
 vols:=h.vols
 nnod:=h.nnod
 vnod:=h.vnod
 nlen:=h.nlen
 vlen:=h.vlen
 bnod:=h.bnod.sublist (hs.map _)
 few:=fun b hb=>h.few b (hs.subset hb)
 nin:=fun b hb=>h.nin b (hs.subset hb)
 vin:=fun b hb=>h.vin b (hs.subset hb)
theorem Inv.bs_eq {k:Nat} {p:PS} (h:Inv k p) {bs':List S_life_Box} (e1:bs'.map (·.f_Id) = p.bs.map (·.f_Id)) (e2:bs'.map (·.f_Spec) = p.bs.map (·.f_Spec)):Inv k ⟨bs',p.ns,p.vs,p.last⟩:=by
 have m1:∀ b ∈ bs',∃ b0 ∈ p.bs,b0.f_Id = b.f_Id:=fun b hb=>List.mem_map.1 (e1 ▸ List.mem_map_of_mem hb)
 have m2:∀ b ∈ bs',∃ b0 ∈ p.bs,b0.f_Spec = b.f_Spec:=fun b hb=>List.mem_map.1 (e2 ▸ List.mem_map_of_mem hb)
 have e3:bs'.map (·.f_Spec.f_Name) = p.bs.map (·.f_Spec.f_Name):=by
  have:=congrArg (List.map (·.f_Name)) e2
  rwa [List.map_map,List.map_map] at this
 exact {
  asc:=by rw [e1]; exact h.asc
  ids:=fun b hb=>by obtain ⟨b0,h0,h1⟩:=m1 b hb; rw [← h1]; exact h.ids b0 h0
  last0:=h.last0
  lastk:=h.lastk
  boxes:=by have:=congrArg List.length e1; simp only [List.length_map] at this; rw [this]; exact h.boxes
  nets:=h.nets
  vols:=h.vols
  nnod:=h.nnod
  vnod:=h.vnod
  nlen:=h.nlen
  vlen:=h.vlen
  bnod:=by rw [e3]; exact h.bnod
  few:=fun b hb=>by obtain ⟨b0,h0,h1⟩:=m2 b hb; rw [← h1]; exact h.few b0 h0
  nin:=fun b hb=>by obtain ⟨b0,h0,h1⟩:=m2 b hb; rw [← h1]; exact h.nin b0 h0
  vin:=fun b hb=>by obtain ⟨b0,h0,h1⟩:=m2 b hb; rw [← h1]; exact h.vin b0 h0 }
theorem Inv.set {k:Nat} {p:PS} (h:Inv k p) {b v:S_life_Box} (hb:b ∈ p.bs) (h1:v.f_Id = b.f_Id) (h2:v.f_Spec = b.f_Spec):Inv k ⟨repl kI p.bs v,p.ns,p.vs,p.last⟩:=by
 refine h.bs_eq (repl_map kI v _ p.bs fun u _ hu=>Sum.inr.inj hu) (repl_map kI v _ p.bs fun u hu huv=>?_)
 have:kI u = kI b:=huv.trans (by simp only [kI,h1])
 have e1:=find_key kI h.idnod hu
 have e2:=find_key kI h.idnod hb
 rw [this] at e1
 rw [h2,Option.some.inj (e1.symm.trans e2)]
theorem Inv.setP {k:Nat} {p:PS} (h:Inv k p) {b:S_life_Box} (hb:b ∈ p.bs) (id:Int) (r:S_life_Box × Int) (h1:r.1.f_Id = b.f_Id) (h2:r.1.f_Spec = b.f_Spec):Inv k (setP id p r).2.2:=by
 unfold M.setP
 split
 ·exact h
 ·exact h.set hb h1 h2
theorem Inv.change {k:Nat} {p:PS} (h:Inv k p) (c:S_api_Call) (now:Int):Inv k (changeP c now p).2.2:=by
 unfold changeP
 split
 ·exact h
 rename_i b hf
 have hb:=List.mem_of_find?_eq_some hf
 split
 ·exact h.setP hb _ _ (start_id b now).1 (start_id b now).2
 split
 ·exact h.setP hb _ _ (stop_id b).1 (stop_id b).2
 split
 ·exact h
 ·exact h.bs_sub (dele_sub _ _ _)
theorem Inv.make {k:Nat} {p:PS} (h:Inv k p) (sp:S_api_Spec) (f1:sp.f_Nets.length ≤ 10) (f2:sp.f_Vols.length ≤ 10):Inv (k + 1) (makeP sp p).2.2:=by
 unfold makeP
 split
 ·exact h.up
 split
 ·exact h.up
 split
 ·exact h.up
 split
 ·exact h.up
 rename_i c1 c2 c3 c4
 rw [Bool.not_eq_false,Bool.and_eq_true,List.all_eq_true,List.all_eq_true] at c3
 have hl:=h.lastk
 have h0:=h.last0
 have ha:∀ b ∈ p.bs ++ [life_New (p.last + 1) sp],b ∈ p.bs ∨ b = life_New (p.last + 1) sp:=fun b hb=>by
  rcases List.mem_append.1 hb with hb | hb
  ·exact .inl hb
  ·exact .inr (List.mem_singleton.1 hb)
 exact {
  asc:=by
   show ((p.bs ++ [_]).map (fun b:S_life_Box=>b.f_Id)).Pairwise (· < ·)
   rw [List.map_append,List.pairwise_append]
   refine ⟨h.asc,by simp,?_⟩
   intro a ha b hb
   obtain ⟨x,h1,rfl⟩:=List.mem_map.1 ha
   simp only [List.map_cons,List.map_nil,List.mem_singleton] at hb
   subst hb
   have:=(h.ids x h1).2
   show x.f_Id < p.last + 1
   omega
  ids:=fun b hb=>by
   rcases ha b hb with hb | rfl
   ·have:=h.ids b hb
    show 1 ≤ b.f_Id ∧ b.f_Id ≤ p.last + 1
    omega
   ·show 1 ≤ p.last + 1 ∧ p.last + 1 ≤ p.last + 1
    omega
  last0:=by show 0 ≤ p.last + 1; omega
  lastk:=by show p.last + 1 ≤ ((k + 1:Nat):Int); omega
  boxes:=by show (p.bs ++ [_]).length ≤ 64; simp; omega
  nets:=h.nets
  vols:=h.vols
  nnod:=h.nnod
  vnod:=h.vnod
  nlen:=h.nlen
  vlen:=h.vlen
  bnod:=by
   show ((p.bs ++ [_]).map (fun b:S_life_Box=>b.f_Spec.f_Name)).Nodup
   rw [List.map_append,List.nodup_append]
   refine ⟨h.bnod,by simp,?_⟩
   intro a ha b hb
   obtain ⟨x,h1,rfl⟩:=List.mem_map.1 ha
   simp only [List.map_cons,List.map_nil,List.mem_singleton] at hb
   subst hb
   intro he
   exact c2 (List.any_eq_true.2 ⟨x,h1,beq_iff_eq.2 he⟩)
  few:=fun b hb=>by
   rcases ha b hb with hb | rfl
   ·exact h.few b hb
   ·exact ⟨f1,f2⟩
  nin:=fun b hb=>by
   rcases ha b hb with hb | rfl
   ·exact h.nin b hb
   ·exact fun s hs=>List.contains_iff_mem.1 (c3.1 s hs)
  vin:=fun b hb=>by
   rcases ha b hb with hb | rfl
   ·exact h.vin b hb
   ·exact fun s hs=>List.contains_iff_mem.1 (c3.2 s hs) }
theorem Inv.step {k:Nat} {p:PS} (h:Inv k p) (c:S_api_Call) (now:Int) (f1:c.f_Spec.f_Nets.length ≤ 10) (f2:c.f_Spec.f_Vols.length ≤ 10):Inv (k + 1) (stepP c now p).2.2:=by
 unfold stepP
 split
 ·obtain ⟨a1,a2,a3,a4,_⟩:=putP_facts c h.nets h.nnod h.nlen
  exact { h.up with nets:=a1,nnod:=a2,nlen:=a3,nin:=fun b hb s hs=>a4 s (h.nin b hb s hs) }
 split
 ·obtain ⟨a1,a2,a3,a4,_⟩:=putP_facts c h.vols h.vnod h.vlen
  exact { h.up with vols:=a1,vnod:=a2,vlen:=a3,vin:=fun b hb s hs=>a4 s (h.vin b hb s hs) }
 split
 ·obtain ⟨a1,a2,a3,a4,_⟩:=dropP_facts (·.f_Nets) p.bs c.f_Name h.nets h.nnod h.nlen h.nin
  exact { h.up with nets:=a1,nnod:=a2,nlen:=a3,nin:=a4 }
 split
 ·obtain ⟨a1,a2,a3,a4,_⟩:=dropP_facts (·.f_Vols) p.bs c.f_Name h.vols h.vnod h.vlen h.vin
  exact { h.up with vols:=a1,vnod:=a2,vlen:=a3,vin:=a4 }
 split
 ·exact h.make c.f_Spec f1 f2
 split
 ·exact (h.change c now).up
 ·exact h.up
theorem inv0:Inv 0 ⟨[],[],[],0⟩ where
 asc:=.nil
 ids:=fun b hb=>by cases hb
 last0:=by decide
 lastk:=by decide
 boxes:=by decide
 nets:=by decide
 vols:=by decide
 nnod:=.nil
 vnod:=.nil
 nlen:=fun b hb=>by cases hb
 vlen:=fun b hb=>by cases hb
 bnod:=.nil
 few:=fun b hb=>by cases hb
 nin:=fun b hb=>by cases hb
 vin:=fun b hb=>by cases hb
theorem alike_refl (n:Nat) (s:S_api_Spec) (h1:s.f_Nets.length ≤ 1000) (h2:s.f_Vols.length ≤ 1000) (hn:100000 ≤ n):ref27_Alike n s s = some true:=by
 unfold ref27_Alike
 rw [ref02_Same_eq n _ _ (by omega) hn,Option.bind_some]
 simp only [decide_true,Bool.not_true,beq_self_eq_true,if_true]
 rw [ref02_Same_eq n _ _ (by omega) hn,Option.bind_some]
 simp [lett]
theorem findSome_no {α ρ:Type}:∀ l:List α,l.findSome? (fun _=>(none:Option ρ)) = none
 | []=>rfl
 | _ :: l=>by rw [List.findSome?_cons]; exact findSome_no l
theorem sameBoxes_refl (n:Nat) (l:List S_api_Container) (hl:l.length ≤ 1000) (h:∀ c ∈ l,c.f_Spec.f_Nets.length ≤ 1000 ∧ c.f_Spec.f_Vols.length ≤ 1000) (hn:100000 ≤ n):law33_SameBoxes n l l = some true:=by
 unfold law33_SameBoxes
 rw [if_neg (by simp)]
 have:=scanL (L:=law33_SameBoxes_l1 n l l) l (fun _=>none) 0 (by omega)
  (fun k i hi _=>by
   have hc:=h _ (List.getElem_mem hi)
   rw [law33_SameBoxes_l1,if_pos (lt_i hi),if_pos (in_i hi),if_pos (in_i hi),at_i hi]
   simp only [bne_self_eq_false,cond_false,beq_self_eq_true,if_true]
   rw [alike_refl n _ hc.1 hc.2 hn]
   simp [lett])
  (fun k=>by rw [law33_SameBoxes_l1,nlt_n]; rfl) n 0 (by omega) (by omega) (by omega)
 have this:law33_SameBoxes_l1 n l l n 0 = _:=this
 rw [this,List.drop_zero,findSome_no]; rfl
theorem seenB_few {k:Nat} {p:PS} (h:Inv k p):∀ c ∈ p.bs.map seenB,c.f_Spec.f_Nets.length ≤ 1000 ∧ c.f_Spec.f_Vols.length ≤ 1000:=by
 intro c hc
 obtain ⟨b,h1,rfl⟩:=List.mem_map.1 hc
 have:=h.few b h1
 show b.f_Spec.f_Nets.length ≤ 1000 ∧ b.f_Spec.f_Vols.length ≤ 1000
 omega
def fewC (c:S_api_Call):Bool:=(bif (bif (bif (decide ((List.length c.f_Spec.f_Nets:Int) > 10)) then true else (decide ((List.length c.f_Spec.f_Vols:Int) > 10))) then true else (decide ((List.length c.f_Spec.f_Name:Int) > 200))) then true else (decide ((List.length c.f_Name:Int) > 200)))
theorem findSome_any2 {α ρ:Type} (p:α → Bool) (r:ρ):∀ l:List α,l.findSome? (fun x=>if p x = true then some r else none) = if l.any p = true then some r else none
 | []=>rfl
 | x :: l=>by
  rw [List.findSome?_cons,List.any_cons,findSome_any2 p r l]
  cases p x <;> simp
theorem few33 (n:Nat) (l:List S_api_Call) (m:Nat) (hm:m ≤ 1000) (hn:100000 ≤ n):law33_Few n l (m:Int) = some (decide (l.length ≤ m) && !l.any fewC):=by
 unfold law33_Few
 by_cases h:(l.length:Int) > (m:Int)
 ·rw [if_pos (decide_eq_true h),decide_eq_false (by omega)]; rfl
 ·rw [if_neg (by simpa using h),decide_eq_true (by omega)]
  have:=scanL (L:=law33_Few_l1 n l) l (fun x=>if fewC x = true then some false else none) 0 (by omega)
   (fun k i h _=>by
    rw [law33_Few_l1,if_pos (lt_i h),if_pos (in_i h),at_i h,if_pos (by rw [in_i h]; simp),if_pos (by rw [in_i h]; simp),if_pos (by rw [in_i h]; simp)]
    simp only [lett]
    unfold fewC
    split <;> rfl)
   (fun k=>by rw [law33_Few_l1,nlt_n]; rfl) n 0 (by omega) (by omega) (by omega)
  have this:law33_Few_l1 n l n 0 = _:=this
  rw [this,List.drop_zero,findSome_any2]
  cases l.any fewC <;> rfl
theorem fewC_few {c:S_api_Call} (h:fewC c = false):c.f_Spec.f_Nets.length ≤ 10 ∧ c.f_Spec.f_Vols.length ≤ 10:=by
 unfold fewC at h
 simp only [Bool.cond_true_left,Bool.or_eq_false_iff,decide_eq_false_iff_not] at h
 omega
end Go.Proofs.YtaecmkldkljioaaGreat.M
