import Derived.Test.YtibgdilkodjojaaGreatDoorQMG12
import Derived.Test.YtibgdilkodjojaaGreatDoorQLoop
import Derived.Test.YtibgdilkodjojaaGreatDoorQStr
import Derived.Test.YtibgdilkodjojaaGreatDoorQRxShelf
set_option linter.all false
namespace Go.Proofs.YtibgdilkodjojaaGreatDoor.M
open Go Go.Proofs.YtibgdilkodjojaaGreatDoor.RX Go.Proofs.YtibgdilkodjojaaGreatDoor.PL
set_option maxRecDepth 100000
def good (c:UInt8):Bool:=decide (32 ≤ c.toNat) && c.toNat != 127
theorem ok_good:∀ c:UInt8,quote_ok (c.toNat:Int) = good c:=byte_all (by decide +kernel)
theorem Good_good:∀ c:UInt8,ref06_Good (c.toNat:Int) = good c:=byte_all (by decide +kernel)
theorem b34 (c:UInt8):((c.toNat:Int) == 34) = decide (c = 34):=beq_byte c 34 (by decide)
theorem b92 (c:UInt8):((c.toNat:Int) == 92) = decide (c = 92):=beq_byte c 92 (by decide)
theorem b10 (c:UInt8):((c.toNat:Int) == 10) = decide (c = 10):=beq_byte c 10 (by decide)
theorem b9 (c:UInt8):((c.toNat:Int) == 9) = decide (c = 9):=beq_byte c 9 (by decide)
theorem k3:∀ c:UInt8,name_Variable_1 (c.toNat:Int) = !(bif (bif (ref02_Kind (c.toNat:Int) == 0) then true else decide (ref02_Kind (c.toNat:Int) > 4)) then true else (ref02_Kind (c.toNat:Int) == 3)):=byte_all (by decide +kernel)
theorem k4:∀ c:UInt8,name_Variable_2 (c.toNat:Int) = !(bif (ref02_Kind (c.toNat:Int) == 0) then true else decide (ref02_Kind (c.toNat:Int) > 4)):=byte_all (by decide +kernel)
def isName (p q:UInt8 → Bool):BS → Bool
 | []=>false
 | c :: s=>decide (s.length < 24) && p c && s.all q
theorem findSome_anyF {α:Type} (p:α → Bool):∀ l:List α,l.findSome? (fun x=>if p x = true then some false else none) = if l.any p = true then some false else none
 | []=>rfl
 | x :: l=>by rw [List.findSome?_cons,List.any_cons,findSome_anyF p l]; cases p x <;> simp
theorem any_not {α:Type} (p:α → Bool) (l:List α):l.any (fun x=>!p x) = !l.all p:=by induction l <;> simp_all
theorem kind_impl (n:Nat) (L:List UInt8 → Nat → Int → Option (Sum Unit Bool)) (p q:UInt8 → Bool) (s:BS) (hn:100 ≤ n)
  (hs:∀ k i (h:i < s.length),L s (k + 1) (i:Int) = if (!(q s[i])) = true then some (.inr false) else L s k (IntKind.wrap .i64 ((i:Int) + 1)))
  (he:∀ k,L s (k + 1) (s.length:Int) = some (.inl ())) :
  (if ((!((bif (decide ((List.length s:Int) < 1)) then true else (decide ((List.length s:Int) > 24))) == false) || decide (0 ≤ (0:Int) ∧ (0:Int) < (List.length s:Int)))) = true then (lett ((bif (bif (decide ((List.length s:Int) < 1)) then true else (decide ((List.length s:Int) > 24))) then true else (!(p ((s)[Int.toNat 0]?.getD 0)))):Bool) fun x1 =>
   if x1 = true then some false
   else ((L s n 1).bind fun o2=>(Sum.elim (fun _=>some true) (fun o2=>some o2)) o2)) else none) = some (isName p q s):=by
 cases s with
 | nil=>simp [lett,isName]
 | cons c t =>
  have e1:decide ((List.length (c :: t):Int) < 1) = false:=decide_eq_false (by simp; omega)
  have e2:decide (0 ≤ (0:Int) ∧ (0:Int) < (List.length (c :: t):Int)) = true:=decide_eq_true (by rw [List.length_cons]; omega)
  simp only [e1,e2,cond_false,Bool.or_true,if_true,Int.toNat_zero,List.getElem?_cons_zero,Option.getD_some,lett]
  by_cases h:t.length < 24
  ·have e3:decide ((List.length (c :: t):Int) > 24) = false:=decide_eq_false (by simp; omega)
   simp only [e3,cond_false,isName,decide_eq_true h,Bool.true_and]
   have:=scanL (L:=L (c :: t)) (c :: t) (fun x=>if (!q x) = true then some false else none) 1 (by simp; omega)
    (fun k i hi _=>by rw [hs k i hi]; cases q (c :: t)[i] <;> rfl) he n 1 (by omega) (by simp) (by simp; omega)
   rw [show (1:Int) = ((1:Nat):Int) from rfl,this,List.drop_one,List.tail_cons,findSome_anyF,any_not]
   cases p c <;> cases t.all q <;> rfl
  ·have e3:decide ((List.length (c :: t):Int) > 24) = true:=decide_eq_true (by simp; omega)
   rw [e3,isName,decide_eq_false h]; rfl
theorem kind_ref (n:Nat) (L:List UInt8 → Nat → Int → Option (Sum Unit Bool)) (p q:UInt8 → Bool) (s:BS) (hn:100 ≤ n)
  (h0:∀ k c t,s = c :: t → L s (k + 1) 0 = if (!(p c)) = true then some (.inr false) else L s k 1)
  (hs:∀ k i (h:i < s.length),1 ≤ i → L s (k + 1) (i:Int) = if (!(q s[i])) = true then some (.inr false) else L s k (IntKind.wrap .i64 ((i:Int) + 1)))
  (he:∀ k,L s (k + 1) (s.length:Int) = some (.inl ())) :
  (if (bif (decide ((List.length s:Int) < 1)) then true else (decide ((List.length s:Int) > 24))) = true then some false
   else ((L s n 0).bind fun o1=>(Sum.elim (fun _=>some true) (fun o1=>some o1)) o1)) = some (isName p q s):=by
 cases s with
 | nil=>simp [isName]
 | cons c t =>
  have e1:decide ((List.length (c :: t):Int) < 1) = false:=decide_eq_false (by simp; omega)
  simp only [e1,cond_false]
  by_cases h:t.length < 24
  ·have e3:decide ((List.length (c :: t):Int) > 24) = false:=decide_eq_false (by simp; omega)
   rw [e3,isName,decide_eq_true h,Bool.true_and,if_neg Bool.false_ne_true]
   obtain ⟨m,rfl⟩:∃ m,n = m + 1:=⟨n - 1,by omega⟩
   rw [h0 m c t rfl]
   have:=scanL (L:=L (c :: t)) (c :: t) (fun x=>if (!q x) = true then some false else none) 1 (by simp; omega)
    (fun k i hi h1=>by rw [hs k i hi h1]; cases q (c :: t)[i] <;> rfl) he m 1 (by omega) (by simp) (by simp; omega)
   rw [show (1:Int) = ((1:Nat):Int) from rfl,this,List.drop_one,List.tail_cons,findSome_anyF,any_not]
   cases p c <;> cases t.all q <;> rfl
  ·have e3:decide ((List.length (c :: t):Int) > 24) = true:=decide_eq_true (by simp; omega)
   rw [e3,isName,decide_eq_false h]; rfl
def va1 (c:UInt8):=name_Variable_1 (c.toNat:Int)
def va2 (c:UInt8):=name_Variable_2 (c.toNat:Int)
theorem i0 {i:Nat} (h:1 ≤ i):((i:Int) == 0) = false:=by rw [beq_eq_false_iff_ne]; omega
theorem name_Variable_eq (n:Nat) (s:BS) (hn:100 ≤ n):name_Variable n s = some (isName va1 va2 s):=by
 have h:name_of__name_Variable_1__name_Variable_2 n s = some (isName va1 va2 s):=kind_impl n (name_of__name_Variable_1__name_Variable_2_l1 n) va1 va2 s hn (fun k i h=>by rw [name_of__name_Variable_1__name_Variable_2_l1,if_pos (lt_i h),if_pos (in_i h),at_i h]; rfl) (fun k=>by rw [name_of__name_Variable_1__name_Variable_2_l1,nlt_n]; rfl)
 unfold name_Variable
 rw [h]; rfl
theorem z_in (c:UInt8) (t:BS):decide (0 ≤ (0:Int) ∧ (0:Int) < (List.length (c :: t):Int)) = true ∧ decide ((0:Int) < (List.length (c :: t):Int)) = true:=⟨decide_eq_true (by rw [List.length_cons]; omega),decide_eq_true (by rw [List.length_cons]; omega)⟩
theorem ref02_Variable_eq (n:Nat) (s:BS) (hn:100 ≤ n):ref02_Variable n s = some (isName va1 va2 s):=by
 unfold ref02_Variable
 exact kind_ref n (ref02_Variable_l1 n) va1 va2 s hn (fun k c t e=>by
   subst e
   rw [ref02_Variable_l1,(z_in c t).1,(z_in c t).2]
   simp only [if_true,Int.toNat_zero,List.getElem?_cons_zero,Option.getD_some,lett,va1,k3,Bool.not_not,beq_self_eq_true,cond_true,show IntKind.wrap .i64 ((0:Int) + 1) = 1 from by decide])
  (fun k i h h1=>by
   rw [ref02_Variable_l1,if_pos (lt_i h),if_pos (in_i h),at_i h]
   simp only [lett,va2,k4,Bool.not_not,i0 h1,cond_false]
   cases (bif (ref02_Kind (s[i].toNat:Int) == 0) then true else decide (ref02_Kind (s[i].toNat:Int) > 4)) <;> rfl)
  (fun k=>by rw [ref02_Variable_l1,nlt_n]; rfl)
theorem strSort_sorted (l:List BS):(strSort l).Pairwise (· ≤ ·):=by
 have:=List.pairwise_mergeSort (le:=fun x y:BS=>decide (x ≤ y)) (fun a b c h1 h2=>by simp only [decide_eq_true_eq] at *; exact bs_le_trans h1 h2) (fun a b=>by simpa using bs_total a b) l
 exact this.imp fun h=>by simpa using h
theorem lim17 {a:Nat} (h:a ≤ 1000000):decide (a * 17 ≤ limit) = true:=decide_eq_true (by show a * 17 ≤ 140737488355328; omega)
def aboveB (out:List BS) (x:BS):Bool:=if out.length = 0 then true else decide ((out[out.length - 1]?.getD []) < x)
def Best (l out:List BS) (i:Nat) (v:Int):Prop :=
 (v = -1 ∧ ∀ j (h:j < l.length),j < i → aboveB out l[j] = false) ∨ ∃ (b:Nat) (h:b < l.length),v = (b:Int) ∧ b < i ∧ aboveB out l[b] = true ∧ ∀ j (h:j < l.length),j < i → aboveB out l[j] = true → l[b] ≤ l[j]
theorem last_at {out:List BS} (h0:out.length ≠ 0) (ho:out.length < 1000000):(decide (0 ≤ (IntKind.wrap .i64 ((List.length out:Int) - 1)) ∧ (IntKind.wrap .i64 ((List.length out:Int) - 1)) < (List.length out:Int))) = true ∧ (out[Int.toNat (IntKind.wrap .i64 ((List.length out:Int) - 1))]?.getD []) = (out[out.length - 1]?.getD []):=by
 rw [wrap_p out.length (by omega) (by omega)]
 exact ⟨in_i (by omega),rfl⟩
theorem j3_eq (n:Nat) (l out:List BS) (i:Nat) (v:Int) (hi:i < l.length) (ho:out.length < 1000000) (hv:v = -1 ∨ ∃ b:Nat,v = (b:Int) ∧ b < l.length) :
  ref02_Sorted_j3 n l out v (i:Int) = some (if (aboveB out l[i] && (decide (v < 0) || decide (l[i] < (l[Int.toNat v]?.getD [])))) = true then (i:Int) else v):=by
 have hA:(bif ((List.length out:Int) == 0) then true else (!(Op.bytesLess (l[Int.toNat (i:Int)]?.getD []) (out[Int.toNat (IntKind.wrap .i64 ((List.length out:Int) - 1))]?.getD []) || (l[Int.toNat (i:Int)]?.getD []) == (out[Int.toNat (IntKind.wrap .i64 ((List.length out:Int) - 1))]?.getD [])))) = aboveB out l[i]:=by
  unfold aboveB
  rw [leq_dec,at_i hi]
  by_cases h0:out.length = 0
  ·simp [h0]
  ·have e:((List.length out:Int) == 0) = false:=by rw [beq_eq_false_iff_ne]; omega
   rw [e,if_neg h0,(last_at h0 ho).2,cond_false,Bool.eq_iff_iff]
   simp [bs_not_le]
 unfold ref02_Sorted_j3
 rw [hA]
 have c2:(!(((List.length out:Int) == 0) == false) || decide (0 ≤ (IntKind.wrap .i64 ((List.length out:Int) - 1)) ∧ (IntKind.wrap .i64 ((List.length out:Int) - 1)) < (List.length out:Int))) = true:=by
  by_cases h0:out.length = 0
  ·simp [h0]
  ·rw [(last_at h0 ho).1,Bool.or_true]
 have c4:(!(((decide (v < 0)) == false) && (aboveB out l[i] == true)) || decide (0 ≤ v ∧ v < (List.length l:Int))) = true:=by
  rcases hv with rfl | ⟨b,rfl,hb⟩
  ·simp
  ·rw [in_i hb,Bool.or_true]
 simp only [in_i hi,Bool.or_true,if_true,c2,c4,lett,less_dec,at_i hi]
 cases aboveB out l[i] <;> cases decide (v < 0) <;> simp
 split <;> rfl
theorem best_step {l out:List BS} {i:Nat} {v:Int} (hi:i < l.length) (h:Best l out i v):Best l out (i + 1) (if (aboveB out l[i] && (decide (v < 0) || decide (l[i] < (l[Int.toNat v]?.getD [])))) = true then (i:Int) else v):=by
 cases ha:aboveB out l[i] with
 | false =>
  rw [Bool.false_and,if_neg Bool.false_ne_true]
  rcases h with ⟨rfl,h⟩ | ⟨b,hb,rfl,hbi,hab,h⟩
  ·refine .inl ⟨rfl,fun j hj hji=>?_⟩
   by_cases e:j = i
   ·subst e; exact ha
   ·exact h j hj (by omega)
  ·refine .inr ⟨b,hb,rfl,by omega,hab,fun j hj hji haj=>?_⟩
   by_cases e:j = i
   ·subst e; rw [ha] at haj; cases haj
   ·exact h j hj (by omega) haj
 | true =>
  rw [Bool.true_and]
  rcases h with ⟨rfl,h⟩ | ⟨b,hb,rfl,hbi,hab,h⟩
  ·rw [if_pos (by simp)]
   refine .inr ⟨i,hi,rfl,by omega,ha,fun j hj hji haj=>?_⟩
   by_cases e:j = i
   ·subst e; exact bs_not_lt.1 (bs_irrefl _)
   ·rw [h j hj (by omega)] at haj; cases haj
  ·have e0:decide ((b:Int) < 0) = false:=decide_eq_false (by omega)
   rw [e0,Bool.false_or,at_i hb]
   by_cases hlt:l[i] < l[b]
   ·rw [if_pos (decide_eq_true hlt)]
    refine .inr ⟨i,hi,rfl,by omega,ha,fun j hj hji haj=>?_⟩
    by_cases e:j = i
    ·subst e; exact bs_not_lt.1 (bs_irrefl _)
    ·exact bs_le_trans (bs_le_of_lt hlt) (h j hj (by omega) haj)
   ·rw [if_neg (by simpa using hlt)]
    refine .inr ⟨b,hb,rfl,by omega,hab,fun j hj hji haj=>?_⟩
    by_cases e:j = i
    ·subst e; exact bs_not_lt.1 hlt
    ·exact h j hj (by omega) haj
theorem l2_eq (n:Nat) (l out:List BS) (hl:l.length < 1000000) (ho:out.length < 1000000):∀ (k i:Nat) (v:Int),i ≤ l.length → l.length - i < k → Best l out i v → ∃ r,ref02_Sorted_l2 n l out k v (i:Int) = some r ∧ Best l out l.length r
 | 0,i,v,_,h,_=>by omega
 | k + 1,i,v,h1,h2,hb=>by
  rw [ref02_Sorted_l2]
  by_cases h:i < l.length
  ·have hv:v = -1 ∨ ∃ b:Nat,v = (b:Int) ∧ b < l.length:=by
    rcases hb with ⟨e,_⟩ | ⟨b,hb,e,_⟩
    ·exact .inl e
    ·exact .inr ⟨b,e,hb⟩
   rw [if_pos (lt_i h),j3_eq n l out i v h ho hv,Option.bind_some,wrap_s i (by omega)]
   exact l2_eq n l out hl ho k (i + 1) _ (by omega) (by omega) (best_step h hb)
  ·have:i = l.length:=by omega
   subst this
   rw [if_neg (by rw [nlt_n]; exact Bool.false_ne_true)]
   exact ⟨v,rfl,hb⟩
theorem l1_eq (n:Nat) (l:List BS) (hl:l.length < 100000) (hn:100000 ≤ n):∀ (k m:Nat),m ≤ (srt l).length → (srt l).length - m < k → ref02_Sorted_l1 n l k ((srt l).take m) = some (srt l)
 | 0,m,_,h=>by omega
 | k + 1,m,h1,h2=>by
  have hlen:=srt_length_le l
  have hA:=asc_srt l
  have htl:((srt l).take m).length = m:=by rw [List.length_take]; omega
  have hab:∀ x,aboveB ((srt l).take m) x = true ↔ (m = 0 ∨ ∃ h:m - 1 < (srt l).length,(srt l)[m - 1] < x):=by
   intro x
   unfold aboveB
   rw [htl]
   by_cases h0:m = 0
   ·simp [h0]
   ·rw [if_neg h0,List.getElem?_take,if_pos (by omega),List.getElem?_eq_getElem (by omega)]
    simp [h0]
    constructor
    ·exact fun h=>⟨by omega,h⟩
    ·exact fun ⟨_,h⟩=>h
  obtain ⟨r,hr,hb⟩:=l2_eq n l ((srt l).take m) (by omega) (by omega) n 0 (-1) (by omega) (by omega) (.inl ⟨rfl,fun j _ h=>by omega⟩)
  have hr:ref02_Sorted_l2 n l ((srt l).take m) n (-1) 0 = some r:=hr
  rw [ref02_Sorted_l1,hr,Option.bind_some]
  rcases hb with ⟨rfl,hb⟩ | ⟨b,hbl,rfl,_,hcb,hb⟩
  ·have hm:m = (srt l).length:=by
    refine Classical.byContradiction fun hne=>?_
    have hmT:m < (srt l).length:=by omega
    obtain ⟨j,hj,e⟩:=List.mem_iff_getElem.1 (mem_srt.1 (List.getElem_mem hmT))
    have:=hb j hj hj
    rw [e] at this
    have h3:aboveB ((srt l).take m) (srt l)[m] = true:=by
     rw [hab]
     by_cases h0:m = 0
     ·exact .inl h0
     ·exact .inr ⟨by omega,List.pairwise_iff_getElem.1 hA (m - 1) m (by omega) hmT (by omega)⟩
    rw [this] at h3; cases h3
   rw [if_pos (by decide)]
   subst hm
   rw [List.take_length]
  ·obtain ⟨j,hj,e⟩:=List.mem_iff_getElem.1 (mem_srt.2 (List.getElem_mem hbl):l[b] ∈ srt l)
   have hmj:m ≤ j:=by
    rcases (hab _).1 hcb with h0 | ⟨h0,h3⟩
    ·omega
    ·refine Classical.byContradiction fun hne=>?_
     rw [← e] at h3
     by_cases hq:j = m - 1
     ·subst hq; exact bs_irrefl _ h3
     ·exact bs_irrefl _ (bs_trans h3 (List.pairwise_iff_getElem.1 hA j (m - 1) hj h0 (by omega)))
   have hmT:m < (srt l).length:=by omega
   have hbm:l[b] = (srt l)[m]:=by
    obtain ⟨j',hj',e'⟩:=List.mem_iff_getElem.1 (mem_srt.1 (List.getElem_mem hmT))
    have h3:aboveB ((srt l).take m) (srt l)[m] = true:=by
     rw [hab]
     by_cases h0:m = 0
     ·exact .inl h0
     ·exact .inr ⟨by omega,List.pairwise_iff_getElem.1 hA (m - 1) m (by omega) hmT (by omega)⟩
    have h4:=hb j' hj' hj' (by rw [e']; exact h3)
    rw [e'] at h4
    refine bs_antisymm h4 ?_
    rw [← e]
    by_cases hq:j = m
    ·subst hq; exact bs_not_lt.1 (bs_irrefl _)
    ·exact bs_le_of_lt (List.pairwise_iff_getElem.1 hA m j hmT hj (by omega))
   have e0:decide ((b:Int) < 0) = false:=decide_eq_false (by omega)
   have hc:decide ((List.length ((srt l).take m) + List.length ([l[b]]:List BS)) * (16 + 1) ≤ limit) = true:=cap_add (by rw [htl]; simp; omega)
   rw [e0,if_neg Bool.false_ne_true,if_pos (in_i hbl),at_i hbl,if_pos hc,hbm,← List.take_succ_eq_append_getElem hmT]
   exact l1_eq n l hl hn k (m + 1) (by omega) (by omega)
theorem ref02_Sorted_eq (n:Nat) (l:List BS) (hl:l.length < 10000) (hn:100000 ≤ n):ref02_Sorted n l = some (srt l):=by
 unfold ref02_Sorted
 have:=l1_eq n l (by omega) hn n 0 (by omega) (by have:=srt_length_le l; omega)
 rw [List.take_zero] at this
 rw [this]; rfl
theorem mlook_mput {α:Type} (x y:MK) (v:α):∀ l:List (MK × α),mlook (mput l x v) y = if x = y then some v else mlook l y
 | []=>by unfold mput mlook; simp [mlook]
 | p :: r=>by
  unfold mput
  by_cases h1:p.1 = x
  ·rw [if_pos h1]
   unfold mlook
   by_cases h2:x = y
   ·rw [if_pos h2,if_pos h2]
   ·rw [if_neg h2,if_neg h2,if_neg (by rw [h1]; exact h2)]
  ·rw [if_neg h1]
   unfold mlook
   rw [mlook_mput x y v r]
   by_cases h2:p.1 = y
   ·rw [if_pos h2,if_pos h2,if_neg (fun e=>h1 (by rw [h2,e]))]
   ·rw [if_neg h2,if_neg h2]
abbrev Vr:=S_api_Var
def lastV (l:List Vr) (x:BS):Option BS:=(l.reverse.find? fun v=>v.f_Key == x).map (·.f_Val)
theorem lastV_snoc (l:List Vr) (v:Vr) (x:BS):lastV (l ++ [v]) x = if v.f_Key = x then some v.f_Val else lastV l x:=by
 unfold lastV
 rw [List.reverse_append,List.reverse_singleton,List.singleton_append,List.find?_cons]
 by_cases h:v.f_Key = x
 ·rw [if_pos h,show (v.f_Key == x) = true by rw [h]; exact beq_self_eq_true _]; rfl
 ·rw [if_neg h,show (v.f_Key == x) = false by rw [beq_eq_false_iff_ne]; exact h]
theorem lastV_none {l:List Vr} {x:BS} (h:x ∉ l.map (·.f_Key)):lastV l x = none:=by
 unfold lastV
 rw [Option.map_eq_none_iff,List.find?_eq_none]
 intro v hv e
 exact h (List.mem_map.2 ⟨v,List.mem_reverse.1 hv,by simpa using e⟩)
def gat (l:List Vr):List Vr:=(srt (l.map (·.f_Key))).map fun k=>⟨k,(lastV l k).getD []⟩
abbrev Mp12:=List (MK × S_env_entry)
def HoldsM (m:Mp12) (l:List Vr):Prop:=∃ ks:List BS,m.map (·.1) = ks.map Sum.inl ∧ ks.Nodup ∧ (∀ x,x ∈ ks ↔ x ∈ l.map (·.f_Key)) ∧ ∀ x:BS,mlook m (.inl x) = (lastV l x).map S_env_entry.mk
theorem HoldsM.nil:HoldsM [] []:=⟨[],rfl,List.nodup_nil,fun x=>Iff.rfl,fun x=>rfl⟩
theorem mput_keys {α:Type} (x:MK) (v:α):∀ l:List (MK × α),(x ∈ l.map (·.1) → (mput l x v).map (·.1) = l.map (·.1)) ∧ (x ∉ l.map (·.1) → (mput l x v).map (·.1) = l.map (·.1) ++ [x])
 | []=>⟨fun h=>(by cases h),fun _=>rfl⟩
 | p :: r=>by
  obtain ⟨h3,h4⟩:=mput_keys x v r
  unfold mput
  by_cases h1:p.1 = x
  ·rw [if_pos h1]
   refine ⟨fun _=>by rw [List.map_cons,List.map_cons,h1],fun h=>absurd ?_ h⟩
   rw [List.map_cons,h1]
   exact List.mem_cons_self
  ·rw [if_neg h1,List.map_cons,List.map_cons]
   refine ⟨fun h=>?_,fun h=>?_⟩
   ·rcases List.mem_cons.1 h with h | h
    ·exact absurd h.symm h1
    ·rw [h3 h]
   ·rw [h4 fun h2=>h (List.mem_cons_of_mem _ h2)]; rfl
theorem HoldsM.put {m:Mp12} {l:List Vr} (h:HoldsM m l) (v:Vr):HoldsM (mput m (.inl v.f_Key) ⟨v.f_Val⟩) (l ++ [v]):=by
 obtain ⟨ks,h1,h2,h3,h4⟩:=h
 have hl:∀ x:BS,mlook (mput m (.inl v.f_Key) ⟨v.f_Val⟩) (.inl x) = (lastV (l ++ [v]) x).map S_env_entry.mk:=by
  intro x
  rw [mlook_mput,lastV_snoc]
  by_cases hx:v.f_Key = x
  ·rw [if_pos hx,if_pos (by rw [hx])]; rfl
  ·rw [if_neg hx,if_neg (fun e=>hx (Sum.inl.inj e)),h4]
 have hmem:(Sum.inl v.f_Key:MK) ∈ m.map (·.1) ↔ v.f_Key ∈ ks:=by
  rw [h1,List.mem_map]
  exact ⟨fun ⟨y,hy,e⟩=>by cases e; exact hy,fun h=>⟨_,h,rfl⟩⟩
 by_cases hk:v.f_Key ∈ ks
 ·refine ⟨ks,by rw [(mput_keys _ _ _).1 (hmem.2 hk),h1],h2,fun x=>?_,hl⟩
  rw [List.map_append,List.mem_append,h3]
  refine ⟨.inl,fun h=>h.elim id fun h=>?_⟩
  have:x = v.f_Key:=by simpa using h
  rw [this]
  exact (h3 _).1 hk
 ·refine ⟨ks ++ [v.f_Key],by rw [(mput_keys _ _ _).2 (fun h=>hk (hmem.1 h)),h1,List.map_append]; rfl,?_,fun x=>?_,hl⟩
  ·rw [List.nodup_append]
   exact ⟨h2,by simp,fun a ha b hb=>by rw [List.mem_singleton.1 hb]; exact fun e=>hk (e ▸ ha)⟩
  ·rw [List.map_append,List.mem_append,List.mem_append,h3]; rfl
theorem strSort_srt {ks:List BS} (h:ks.Nodup):strSort ks = srt ks:=by
 refine Asc.ext ?_ (asc_srt ks) fun x=>?_
 ·have h1:=strSort_sorted ks
  have h2:(strSort ks).Nodup:=(List.mergeSort_perm ks _).nodup_iff.2 h
  exact (List.pairwise_and_iff.2 ⟨h1,h2⟩).imp fun ⟨a,b⟩=>bs_lt_of_le_of_ne a b
 ·rw [mem_srt]
  exact List.mem_mergeSort
theorem HoldsM.keys {m:Mp12} {l:List Vr} (h:HoldsM m l):keysS m = srt (l.map (·.f_Key)) ∧ m.length = (srt (l.map (·.f_Key))).length:=by
 obtain ⟨ks,h1,h2,h3,_⟩:=h
 have e:m.map (fun p=>keyStr p.1) = ks:=by
  have:=congrArg (List.map keyStr) h1
  rw [List.map_map,List.map_map] at this
  simpa [Function.comp_def,keyStr] using this
 have hs:srt ks = srt (l.map (·.f_Key)):=srt_ext h3
 refine ⟨by unfold keysS; rw [e,strSort_srt h2,hs],?_⟩
 rw [← hs,← strSort_srt h2]
 show _ = (List.mergeSort ks _).length
 rw [List.length_mergeSort,← e,List.length_map]
def Short (l:List Vr):Prop:=∀ v ∈ l,isName va1 va2 v.f_Key = true
theorem isName_len {p q:UInt8 → Bool} {s:BS} (h:isName p q s = true):s.length ≤ 24 ∧ s ≠ []:=by
 cases s with
 | nil=>cases h
 | cons c r =>
  unfold isName at h
  rw [Bool.and_eq_true,Bool.and_eq_true] at h
  have:=of_decide_eq_true h.1.1
  exact ⟨by rw [List.length_cons]; omega,List.cons_ne_nil _ _⟩
theorem HoldsM.ok {m:Mp12} {l:List Vr} (h:HoldsM m l) (hs:Short l) (hl:l.length ≤ 100000):keysOkS m = true:=by
 have hlen:=h.keys.2
 have hle:=srt_length_le (l.map (·.f_Key))
 rw [List.length_map] at hle
 obtain ⟨ks,h1,h2,h3,_⟩:=h
 unfold keysOkS
 rw [Bool.and_eq_true,List.all_eq_true]
 refine ⟨lim17 (by omega),fun p hp=>?_⟩
 have:p.1 ∈ ks.map Sum.inl:=by rw [← h1]; exact List.mem_map_of_mem hp
 obtain ⟨k,hk,e⟩:=List.mem_map.1 this
 obtain ⟨v,hv,e2⟩:=List.mem_map.1 ((h3 k).1 hk)
 have:=(isName_len (hs v hv)).1
 rw [← e,← e2]
 show decide (v.f_Key.length ≤ limit) = true
 exact decide_eq_true (by show _ ≤ 140737488355328; omega)
theorem cap33 {a b:Nat} (h:a + b ≤ 1000000000):decide ((a + b) * (32 + 1) ≤ limit) = true:=decide_eq_true (by show (a + b) * (32 + 1) ≤ 140737488355328; omega)
theorem foldl_snoc {α β:Type} (g:α → β):∀ (l:List α) (acc:List β),l.foldl (fun acc x=>acc ++ [g x]) acc = acc ++ l.map g
 | [],acc=>by simp
 | x :: l,acc=>by rw [List.foldl_cons,foldl_snoc g l,List.append_assoc]; rfl
theorem told_l1 (n:Nat) (ks:List BS) (m:Mp12) (hk:ks.length ≤ 100000) (hn:ks.length < n):env_told__m0_l1 n ks (ks.length:Int) m n [] 0 = some (ks.map fun k=>⟨k,((mlook m (.inl k)).getD ⟨[]⟩).f_val⟩):=by
 have:=(gather (L:=env_told__m0_l1 n ks (ks.length:Int) m) ks (fun (acc:List Vr) k=>acc ++ [⟨k,((mlook m (.inl k)).getD ⟨[]⟩).f_val⟩]) id (fun i acc=>acc.length ≤ i) (by omega)
  (fun k acc i h hI=>by
   rw [env_told__m0_l1,if_pos (lt_i h),if_pos (in_i h),if_pos (cap33 (by simp; omega)),at_i h]
   rfl)
  (fun acc i h hI=>by rw [List.length_append]; simpa using hI)
  (fun k acc _=>by rw [env_told__m0_l1,nlt_n]; rfl) n 0 [] (by omega) (by omega) (by simp)).1
 rw [show (0:Int) = ((0:Nat):Int) from rfl,this,List.drop_zero,foldl_snoc,List.nil_append]; rfl
theorem told_eq (n:Nat) (m:Mp12) (l:List Vr) (h:HoldsM m l) (hs:Short l) (hl:l.length ≤ 100000) (hn:200000 ≤ n):env_told__m0 n m = some (gat l,m):=by
 have hle:=srt_length_le (l.map (·.f_Key))
 rw [List.length_map] at hle
 unfold env_told__m0
 rw [if_pos (h.ok hs hl),h.keys.1,told_l1 n _ m (by omega) (by omega),Option.bind_some]
 congr 2
 refine List.map_congr_left fun k _=>?_
 obtain ⟨_,_,_,_,h4⟩:=h
 rw [h4]
 cases lastV l k <;> rfl
theorem last_l1 (n:Nat) (l:List Vr) (x:BS) (hl:l.length ≤ 100000):∀ (j k:Nat),j ≤ l.length → j < k → ref12_Last_l1 n l x k ((j:Int) - 1) = some (match lastV (l.take j) x with | none=>.inl () | some v=>.inr (v,true))
 | 0,k,_,h=>by
  obtain ⟨k,rfl⟩:∃ k',k = k' + 1:=⟨k - 1,by omega⟩
  rw [ref12_Last_l1,if_neg (by simp)]; rfl
 | j + 1,k,hj,h=>by
  obtain ⟨k,rfl⟩:∃ k',k = k' + 1:=⟨k - 1,by omega⟩
  have hx:(((j + 1:Nat):Int) - 1) = (j:Int):=by omega
  rw [ref12_Last_l1,hx,if_pos (decide_eq_true (by omega)),if_pos (in_i (by omega)),at_i (by omega:j < l.length),List.take_succ_eq_append_getElem (by omega),lastV_snoc]
  by_cases hk:l[j].f_Key = x
  ·rw [if_pos (by rw [hk]; exact beq_self_eq_true _),if_pos (in_i (by omega)),if_pos hk]
  ·rw [if_neg (by simpa using hk),if_neg hk,wrap_id _ (by omega) (by omega)]
   exact last_l1 n l x hl j k (by omega) (by omega)
theorem last_eq (n:Nat) (l:List Vr) (x:BS) (hl:l.length ≤ 100000) (hn:l.length < n):ref12_Last n l x = some ((lastV l x).getD [],(lastV l x).isSome):=by
 unfold ref12_Last
 have:=last_l1 n l x hl l.length n (Nat.le_refl _) hn
 rw [List.take_length] at this
 rw [wrap_id _ (by omega) (by omega),this]
 cases lastV l x <;> rfl
def vl (l:List Vr):List Vr:=l.filter fun v=>isName va1 va2 v.f_Key
theorem vl_short (l:List Vr):Short (vl l):=fun v h=>(List.mem_filter.1 h).2
theorem lastV_vl {x:BS} (hx:isName va1 va2 x = true) (l:List Vr):lastV (vl l) x = lastV l x:=by
 unfold lastV vl
 rw [← List.filter_reverse]
 generalize l.reverse = r
 congr 1
 induction r with
 | nil=>rfl
 | cons v r ih =>
  rw [List.filter_cons,List.find?_cons]
  by_cases hk:v.f_Key = x
  ·have hb:(v.f_Key == x) = true:=by rw [hk]; exact beq_self_eq_true _
   rw [if_pos (by rw [hk]; exact hx),List.find?_cons,hb]
  ·have hb:(v.f_Key == x) = false:=by rw [beq_eq_false_iff_ne]; exact hk
   rw [hb]
   split
   ·rw [List.find?_cons,hb]; exact ih
   ·exact ih
theorem vl_len (l:List Vr):(vl l).length ≤ l.length:=List.length_filter_le ..
theorem gat_l1 (n:Nat) (l:List Vr) (hl:l.length ≤ 100000) (hn:l.length < n) (hn2:100 ≤ n):ref12_Gathered_l1 n l n [] 0 = some ((vl l).map (·.f_Key)):=by
 have:=(gather (L:=ref12_Gathered_l1 n l) l (fun (acc:List BS) v=>if isName va1 va2 v.f_Key = true then acc ++ [v.f_Key] else acc) id (fun i acc=>acc.length ≤ i) (by omega)
  (fun k acc i h hI=>by
   rw [ref12_Gathered_l1,if_pos (lt_i h)]
   unfold ref12_Gathered_j2
   rw [if_pos (in_i h),at_i h,ref02_Variable_eq n _ hn2,Option.bind_some]
   cases isName va1 va2 l[i].f_Key with
   | true=>rw [if_pos rfl,if_pos rfl,if_pos (in_i h),if_pos (cap_add (by simp; omega))]; rfl
   | false=>rfl)
  (fun acc i h hI=>by
   show (if isName va1 va2 l[i].f_Key = true then acc ++ [l[i].f_Key] else acc).length ≤ i + 1
   split
   ·rw [List.length_append]; exact Nat.succ_le_succ hI
   ·omega)
  (fun k acc _=>by rw [ref12_Gathered_l1,nlt_n]; rfl) n 0 [] (by omega) (by omega) (by simp)).1
 rw [show (0:Int) = ((0:Nat):Int) from rfl,this,List.drop_zero]
 congr 1
 have:∀ (l:List Vr) (acc:List BS),l.foldl (fun (acc:List BS) v=>if isName va1 va2 v.f_Key = true then acc ++ [v.f_Key] else acc) acc = acc ++ (vl l).map (·.f_Key):=by
  intro l
  induction l with
  | nil=>intro acc; simp [vl]
  | cons v r ih =>
   intro acc
   rw [List.foldl_cons,ih]
   unfold vl
   rw [List.filter_cons]
   split <;> simp
 exact (this l []).trans (List.nil_append _)
theorem gat_l3 (n:Nat) (l:List Vr) (ks:List BS) (hl:l.length ≤ 100000) (hn:l.length < n) (hk:ks.length ≤ 100000) (hn2:ks.length < n):ref12_Gathered_l3 n l ks n [] 0 = some (ks.map fun k=>⟨k,(lastV l k).getD []⟩):=by
 have:=(gather (L:=ref12_Gathered_l3 n l ks) ks (fun (acc:List Vr) k=>acc ++ [⟨k,(lastV l k).getD []⟩]) id (fun i acc=>acc.length ≤ i) (by omega)
  (fun k acc i h hI=>by
   rw [ref12_Gathered_l3,if_pos (lt_i h),if_pos (in_i h),at_i h,last_eq n l _ hl hn,Option.bind_some,if_pos (in_i h),if_pos (cap33 (by simp; omega))])
  (fun acc i h hI=>by rw [List.length_append]; simpa using hI)
  (fun k acc _=>by rw [ref12_Gathered_l3,nlt_n]; rfl) n 0 [] (by omega) (by omega) (by simp)).1
 rw [show (0:Int) = ((0:Nat):Int) from rfl,this,List.drop_zero,foldl_snoc,List.nil_append]; rfl
theorem gathered_eq (n:Nat) (l:List Vr) (hl:l.length < 10000) (hn:200000 ≤ n):ref12_Gathered n l = some (gat (vl l)):=by
 have h1:=vl_len l
 have hle:=srt_length_le ((vl l).map (·.f_Key))
 rw [List.length_map] at hle
 unfold ref12_Gathered
 rw [gat_l1 n l (by omega) (by omega) (by omega),Option.bind_some,ref02_Sorted_eq n _ (by rw [List.length_map]; omega) (by omega),Option.bind_some,gat_l3 n l _ (by omega) (by omega) (by omega) (by omega),Option.bind_some]
 congr 1
 unfold gat
 refine List.map_congr_left fun k hk=>?_
 obtain ⟨v,hv,e⟩:=List.mem_map.1 (mem_srt.1 hk)
 rw [lastV_vl (by rw [← e]; exact vl_short l v hv)]
theorem same_self12 (n:Nat) (l:List Vr) (hl:l.length ≤ 100000) (hn:l.length < n):ref12_Same n l l = some true:=by
 unfold ref12_Same
 have:=scanL (L:=ref12_Same_l1 n l l) l (fun _=>(none:Option Bool)) 0 (by omega)
  (fun k i h _=>by
   rw [ref12_Same_l1,if_pos (lt_i h),if_pos (in_i h),if_pos (in_i h),beq_self_eq_true,beq_self_eq_true]
   rfl) (fun k=>by rw [ref12_Same_l1,nlt_n]; rfl) n 0 (by omega) (by omega) (by omega)
 rw [if_neg (by simp),show (0:Int) = ((0:Nat):Int) from rfl,this,List.drop_zero]
 have e:∀ l:List Vr,l.findSome? (fun _=>(none:Option Bool)) = none:=by
  intro l
  induction l with
  | nil=>rfl
  | cons a r ih=>rw [List.findSome?_cons]; exact ih
 rw [e]; rfl
theorem few12 (n:Nat) (l:List Vr) (m:Nat) (hm:m ≤ 1000) (hn:100000 ≤ n):∃ b,law12_Few n l (m:Int) = some b ∧ (b = true → l.length ≤ m ∧ ∀ v ∈ l,v.f_Val.length ≤ 100):=by
 unfold law12_Few
 by_cases h:l.length ≤ m
 ·rw [if_neg (by simp; omega)]
  have:=scanL (L:=law12_Few_l1 n l) l (fun v=>if (bif decide ((v.f_Key.length:Int) > 100) then true else decide ((v.f_Val.length:Int) > 100)) = true then some false else none) 0 (by omega)
   (fun k i h _=>by
    rw [law12_Few_l1,if_pos (lt_i h),if_pos (in_i h),in_i h,at_i h,Bool.or_true,if_pos rfl]
    simp only [lett]
    cases (bif decide ((l[i].f_Key.length:Int) > 100) then true else decide ((l[i].f_Val.length:Int) > 100)) <;> rfl) (fun k=>by rw [law12_Few_l1,nlt_n]; rfl) n 0 (by omega) (by omega) (by omega)
  rw [show (0:Int) = ((0:Nat):Int) from rfl,this,List.drop_zero]
  clear this
  cases hf:l.findSome? (fun v=>if (bif decide ((v.f_Key.length:Int) > 100) then true else decide ((v.f_Val.length:Int) > 100)) = true then some false else none) with
  | none =>
   refine ⟨true,rfl,fun _=>⟨h,fun v hv=>?_⟩⟩
   have h1:=List.findSome?_eq_none_iff.1 hf v hv
   by_cases c:v.f_Val.length ≤ 100
   ·exact c
   ·rw [decide_eq_true (by omega:(v.f_Val.length:Int) > 100)] at h1
    rw [if_pos (by cases decide ((v.f_Key.length:Int) > 100) <;> rfl)] at h1
    cases h1
  | some b =>
   obtain ⟨v,_,h1⟩:=List.exists_of_findSome?_eq_some hf
   refine ⟨b,rfl,fun hb=>?_⟩
   subst hb
   split at h1 <;> cases h1
 ·rw [if_pos (decide_eq_true (by omega))]
  exact ⟨false,rfl,fun h=>by cases h⟩
def of12 (l:List Vr):List Vr:=(gat (vl l)).take 64
theorem of_loop (n:Nat) (l:List Vr) (hl:l.length ≤ 10000) (hn:200000 ≤ n):∃ m,env_Of_l1 n l (l.length:Int) n 0 [] = some m ∧ HoldsM m (vl l):=by
 have:=gather (L:=fun k (m:Mp12) i=>env_Of_l1 n l (l.length:Int) k i m) l (fun (m:Mp12) v=>if isName va1 va2 v.f_Key = true then mput m (.inl v.f_Key) ⟨v.f_Val⟩ else m) id (fun i m=>HoldsM m (vl (l.take i))) (by omega)
  (fun k m i h hI=>by
   show env_Of_l1 n l (l.length:Int) (k + 1) (i:Int) m = _
   rw [env_Of_l1,if_pos (lt_i h)]
   unfold env_Of_j2
   rw [if_pos (in_i h),at_i h,name_Variable_eq n _ (by omega),Option.bind_some]
   cases isName va1 va2 l[i].f_Key <;> rfl)
  (fun m i h hI=>by
   show HoldsM (if isName va1 va2 l[i].f_Key = true then mput m (.inl l[i].f_Key) ⟨l[i].f_Val⟩ else m) (vl (l.take (i + 1)))
   rw [List.take_succ_eq_append_getElem h]
   unfold vl at hI ⊢
   rw [List.filter_append,List.filter_cons,List.filter_nil]
   by_cases hv:isName va1 va2 l[i].f_Key = true
   ·rw [if_pos hv,if_pos hv]; exact hI.put l[i]
   ·rw [if_neg hv,if_neg hv,List.append_nil]; exact hI)
  (fun k m _=>by
   show env_Of_l1 n l (l.length:Int) (k + 1) (l.length:Int) m = _
   rw [env_Of_l1,nlt_n]; rfl) n 0 [] (by omega) (by omega) HoldsM.nil
 rw [List.take_length] at this
 exact ⟨_,this.1,this.2⟩
theorem of_eq (n:Nat) (l:List Vr) (hl:l.length ≤ 9000) (hn:200000 ≤ n):env_Of n l = some (of12 l):=by
 obtain ⟨m,h1,h2⟩:=of_loop n l (by omega) hn
 have h3:=vl_len l
 unfold env_Of
 rw [h1,Option.bind_some,told_eq n m (vl l) h2 (vl_short l) (by omega) hn,Option.bind_some]
 simp only
 unfold of12
 by_cases h:(gat (vl l)).length ≤ 64
 ·rw [if_neg (by omega:¬ (64:Int) < ((gat (vl l)).length:Int)),if_pos (le_i (Nat.le_refl _)),tn,List.take_length,List.take_of_length_le h]
 ·rw [if_pos (by omega:(64:Int) < ((gat (vl l)).length:Int)),if_pos (decide_eq_true (by omega))]; rfl
theorem concat_eq (n:Nat) (a b:List Vr) (ha:a.length ≤ 1000) (hb:b.length ≤ 1000) (hn:100 ≤ n):slices_Concat_api_Var_api_Var n [a,b] = some (a ++ b):=by
 have hx:∀ i (h:i < [a,b].length),[a,b][i].length ≤ 1000:=by
  intro i h
  match i,h with
  | 0,_=>exact ha
  | 1,_=>exact hb
 unfold slices_Concat_api_Var_api_Var
 have h1:=(gather (L:=fun k (s:Nat) i=>slices_Concat_api_Var_api_Var_l1 n [a,b] [a,b] ([a,b].length:Int) k (s:Int) i) [a,b] (fun s x=>s + x.length) (fun s=>(s:Int)) (fun i s=>s ≤ i * 1000) (by simp)
  (fun k s i h hI=>by
   show slices_Concat_api_Var_api_Var_l1 n [a,b] [a,b] ([a,b].length:Int) (k + 1) (s:Int) (i:Int) = _
   have:=hx i h
   have:i < 2:=h
   rw [slices_Concat_api_Var_api_Var_l1,if_pos (lt_i h)]
   unfold slices_Concat_api_Var_api_Var_j2
   have hw:IntKind.wrap .i64 ((s:Int) + ([a,b][i].length:Int)) = ((s + [a,b][i].length:Nat):Int):=by rw [wrap_id _ (by omega) (by omega)]; omega
   rw [if_pos (in_i h),at_i h,hw,if_neg (by simp; omega)]; rfl)
  (fun s i h hI=>by have:=hx i h; show s + [a,b][i].length ≤ (i + 1) * 1000; omega)
  (fun k s _=>by
   show slices_Concat_api_Var_api_Var_l1 n [a,b] [a,b] ([a,b].length:Int) (k + 1) (s:Int) _ = _
   rw [slices_Concat_api_Var_api_Var_l1,nlt_n]; rfl) n 0 0 (by simp) (by simp; omega) (by simp)).1
 have h3:=(gather (L:=slices_Concat_api_Var_api_Var_l3 n [a,b] ([a,b].length:Int)) [a,b] (fun (s:List Vr) x=>s ++ x) id (fun i s=>s.length ≤ i * 1000) (by simp)
  (fun k s i h hI=>by
   have:=hx i h
   have:i < 2:=h
   rw [slices_Concat_api_Var_api_Var_l3,if_pos (lt_i h),if_pos (in_i h),at_i h,if_pos (cap33 (by omega))])
  (fun s i h hI=>by have:=hx i h; rw [List.length_append]; omega)
  (fun k s _=>by rw [slices_Concat_api_Var_api_Var_l3,nlt_n]; rfl) n 0 [] (by simp) (by simp; omega) (by simp)).1
 simp only [List.drop_zero,List.foldl_cons,List.foldl_nil,Nat.zero_add,List.nil_append,id_eq] at h1 h3
 have h1:slices_Concat_api_Var_api_Var_l1 n [a,b] [a,b] ([a,b].length:Int) n 0 0 = some ((a.length + b.length:Nat):Int):=h1
 have h3:slices_Concat_api_Var_api_Var_l3 n [a,b] ([a,b].length:Int) n [] 0 = some (a ++ b):=h3
 rw [h1,Option.bind_some,if_pos (decide_eq_true ⟨by omega,by show ((a.length + b.length:Nat):Int) * 33 ≤ ((140737488355328:Nat):Int); omega⟩),h3]; rfl
theorem over_eq (n:Nat) (a b:List Vr) (ha:a.length ≤ 1000) (hb:b.length ≤ 1000) (hn:200000 ≤ n):env_Over n a b = some (of12 (a ++ b)):=by
 unfold env_Over
 rw [concat_eq n a b ha hb (by omega),Option.bind_some,of_eq n _ (by rw [List.length_append]; omega) hn]; rfl
def firstV (l:List Vr) (x:BS):Option BS:=(l.find? fun v=>v.f_Key == x).map (·.f_Val)
theorem firstV_cons (v:Vr) (r:List Vr) (x:BS):firstV (v :: r) x = if v.f_Key = x then some v.f_Val else firstV r x:=by
 unfold firstV
 rw [List.find?_cons]
 by_cases h:v.f_Key = x
 ·rw [if_pos h,show (v.f_Key == x) = true by rw [h]; exact beq_self_eq_true _]; rfl
 ·rw [if_neg h,show (v.f_Key == x) = false by rw [beq_eq_false_iff_ne]; exact h]
theorem lastV_cons (v:Vr) (r:List Vr) (x:BS):lastV (v :: r) x = match lastV r x with | some w=>some w | none=>if v.f_Key = x then some v.f_Val else none:=by
 unfold lastV
 rw [List.reverse_cons,List.find?_append]
 cases r.reverse.find? (fun v=>v.f_Key == x) with
 | some w=>rfl
 | none =>
  rw [Option.none_or,List.find?_cons]
  by_cases h:v.f_Key = x
  ·rw [show (v.f_Key == x) = true by rw [h]; exact beq_self_eq_true _]; simp [h]
  ·rw [show (v.f_Key == x) = false by rw [beq_eq_false_iff_ne]; exact h]; simp [h]
theorem first_last {l:List Vr} (h:(l.map (·.f_Key)).Nodup) (x:BS):firstV l x = lastV l x:=by
 induction l with
 | nil=>rfl
 | cons v r ih =>
  rw [List.map_cons,List.nodup_cons] at h
  rw [firstV_cons,lastV_cons,ih h.2]
  by_cases hv:v.f_Key = x
  ·rw [if_pos hv,lastV_none (by rw [← hv]; exact h.1),if_pos hv]
  ·rw [if_neg hv]
   cases lastV r x with
   | some w=>rfl
   | none=>rw [if_neg hv]
theorem get_eq (n:Nat) (l:List Vr) (x:BS) (hl:l.length ≤ 100000) (hn:l.length < n):env_Get n l x = some ((firstV l x).getD [],(firstV l x).isSome):=by
 unfold env_Get
 have:=scanL (L:=env_Get_l1 n x l (l.length:Int)) l (fun v=>if v.f_Key = x then some (v.f_Val,true) else none) 0 (by omega)
  (fun k i h _=>by
   rw [env_Get_l1,if_pos (lt_i h),if_pos (in_i h),at_i h]
   by_cases c:l[i].f_Key = x
   ·rw [if_pos (by rw [c]; exact beq_self_eq_true _),if_pos c]
   ·rw [if_neg (by simpa using c),if_neg c]) (fun k=>by rw [env_Get_l1,nlt_n]; rfl) n 0 (by omega) (by omega) (by omega)
 rw [show (0:Int) = ((0:Nat):Int) from rfl,this,List.drop_zero]
 have e:∀ l:List Vr,l.findSome? (fun v=>if v.f_Key = x then some (v.f_Val,true) else none) = (firstV l x).map fun w=>(w,true):=by
  intro l
  induction l with
  | nil=>rfl
  | cons v r ih =>
   rw [List.findSome?_cons,firstV_cons]
   by_cases c:v.f_Key = x
   ·rw [if_pos c,if_pos c]; rfl
   ·rw [if_neg c,if_neg c]; exact ih
 rw [e]
 cases firstV l x <;> rfl
theorem gat_keys (l:List Vr):(gat l).map (·.f_Key) = srt (l.map (·.f_Key)):=by
 unfold gat
 rw [List.map_map]
 exact List.map_id _
theorem of_asc (l:List Vr):Asc ((of12 l).map (·.f_Key)):=by
 unfold of12
 rw [List.map_take,gat_keys]
 exact (asc_srt _).sublist (List.take_sublist ..)
theorem lastV_mem {l:List Vr} {x v:BS} (h:lastV l x = some v):∃ w ∈ l,w.f_Key = x ∧ w.f_Val = v:=by
 unfold lastV at h
 obtain ⟨w,h1,h2⟩:=Option.map_eq_some_iff.1 h
 exact ⟨w,List.mem_reverse.1 (List.mem_of_find?_eq_some h1),by simpa using List.find?_some h1,h2⟩
theorem of_mem {l:List Vr} (hl:∀ v ∈ l,v.f_Val.length ≤ 100) {v:Vr} (h:v ∈ of12 l):isName va1 va2 v.f_Key = true ∧ v.f_Val.length ≤ 100:=by
 have h:=List.mem_of_mem_take h
 unfold gat at h
 obtain ⟨k,hk,rfl⟩:=List.mem_map.1 h
 obtain ⟨w,hw,rfl⟩:=List.mem_map.1 (mem_srt.1 hk)
 refine ⟨vl_short l w hw,?_⟩
 show ((lastV (vl l) w.f_Key).getD []).length ≤ 100
 cases hx:lastV (vl l) w.f_Key with
 | none=>exact Nat.zero_le _
 | some u =>
  obtain ⟨z,h1,_,h3⟩:=lastV_mem hx
  rw [Option.getD_some,← h3]
  exact hl z (List.mem_filter.1 h1).1
theorem of_len (l:List Vr):(of12 l).length ≤ 64:=by
 unfold of12
 rw [List.length_take]; omega
end Go.Proofs.YtibgdilkodjojaaGreatDoor.M
