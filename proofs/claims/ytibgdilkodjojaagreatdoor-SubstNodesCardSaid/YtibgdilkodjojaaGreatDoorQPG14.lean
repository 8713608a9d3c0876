import Derived.Test.YtibgdilkodjojaaGreatDoorQMG14
import Derived.Test.YtibgdilkodjojaaGreatDoorQLoop
import Derived.Test.YtibgdilkodjojaaGreatDoorQStr
import Derived.Test.YtibgdilkodjojaaGreatDoorQRxShelf
set_option linter.all false
namespace Go.Proofs.YtibgdilkodjojaaGreatDoor.M
open Go Go.Proofs.YtibgdilkodjojaaGreatDoor.RX Go.Proofs.YtibgdilkodjojaaGreatDoor.PL
set_option maxRecDepth 100000
theorem k3:∀ c:UInt8,name_Variable_1 (c.toNat:Int) = !(bif (bif (ref02_Kind (c.toNat:Int) == 0) then true else decide (ref02_Kind (c.toNat:Int) > 4)) then true else (ref02_Kind (c.toNat:Int) == 3)):=byte_all (by decide +kernel)
theorem k4:∀ c:UInt8,name_Variable_2 (c.toNat:Int) = !(bif (ref02_Kind (c.toNat:Int) == 0) then true else decide (ref02_Kind (c.toNat:Int) > 4)):=byte_all (by decide +kernel)
def isName (p q:UInt8 → Bool):BS → Bool
 | []=>false
 | c :: s=>decide (s.length < 24) && p c && s.all q
theorem findSome_anyF {α:Type} (p:α → Bool):∀ l:List α,l.findSome? (fun x=>if p x = true then some false else none) = if l.any p = true then some false else none
 | []=>rfl
 | x :: l=>by rw [List.findSome?_cons,List.any_cons,findSome_anyF p l]; cases p x <;> simp
theorem any_not {α:Type} (p:α → Bool) (l:List α):l.any (fun x=>!p x) = !l.all p:=by induction l <;> simp_all
theorem kind_impl (n:Nat) (L:List UInt8 → Nat → Int → Option (Sum Unit Bool)) (p q:UInt8 → Bool) (s:BS) (hn:100 ≤ n)
  (hs:∀ k i (h:i < s.length),L s (k + 1) (i:Int) = if (!(q s[i])) = true then some (.inr false) else L s k (IntKind.wrap .i64 ((i:Int) + 1)))
  (he:∀ k,L s (k + 1) (s.length:Int) = some (.inl ())) :
  (if ((!((bif (decide ((List.length s:Int) < 1)) then true else (decide ((List.length s:Int) > 24))) == false) || decide (0 ≤ (0:Int) ∧ (0:Int) < (List.length s:Int)))) = true then (lett ((bif (bif (decide ((List.length s:Int) < 1)) then true else (decide ((List.length s:Int) > 24))) then true else (!(p ((s)[Int.toNat 0]?.getD 0)))):Bool) fun x1 =>
   if x1 = true then some false
   else ((L s n 1).bind fun o2=>(Sum.elim (fun _=>some true) (fun o2=>some o2)) o2)) else none) = some (isName p q s):=by
 cases s with
 | nil=>simp [lett,isName]
 | cons c t =>
  have e1:decide ((List.length (c :: t):Int) < 1) = false:=decide_eq_false (by simp; omega)
  have e2:decide (0 ≤ (0:Int) ∧ (0:Int) < (List.length (c :: t):Int)) = true:=decide_eq_true (by rw [List.length_cons]; omega)
  simp only [e1,e2,cond_false,Bool.or_true,if_true,Int.toNat_zero,List.getElem?_cons_zero,Option.getD_some,lett]
  by_cases h:t.length < 24
  ·have e3:decide ((List.length (c :: t):Int) > 24) = false:=decide_eq_false (by simp; omega)
   simp only [e3,cond_false,isName,decide_eq_true h,Bool.true_and]
   have:=scanL (L:=L (c :: t)) (c :: t) (fun x=>if (!q x) = true then some false else none) 1 (by simp; omega)
    (fun k i hi _=>by rw [hs k i hi]; cases q (c :: t)[i] <;> rfl) he n 1 (by omega) (by simp) (by simp; omega)
   rw [show (1:Int) = ((1:Nat):Int) from rfl,this,List.drop_one,List.tail_cons,findSome_anyF,any_not]
   cases p c <;> cases t.all q <;> rfl
  ·have e3:decide ((List.length (c :: t):Int) > 24) = true:=decide_eq_true (by simp; omega)
   rw [e3,isName,decide_eq_false h]; rfl
theorem kind_ref (n:Nat) (L:List UInt8 → Nat → Int → Option (Sum Unit Bool)) (p q:UInt8 → Bool) (s:BS) (hn:100 ≤ n)
  (h0:∀ k c t,s = c :: t → L s (k + 1) 0 = if (!(p c)) = true then some (.inr false) else L s k 1)
  (hs:∀ k i (h:i < s.length),1 ≤ i → L s (k + 1) (i:Int) = if (!(q s[i])) = true then some (.inr false) else L s k (IntKind.wrap .i64 ((i:Int) + 1)))
  (he:∀ k,L s (k + 1) (s.length:Int) = some (.inl ())) :
  (if (bif (decide ((List.length s:Int) < 1)) then true else (decide ((List.length s:Int) > 24))) = true then some false
   else ((L s n 0).bind fun o1=>(Sum.elim (fun _=>some true) (fun o1=>some o1)) o1)) = some (isName p q s):=by
 cases s with
 | nil=>simp [isName]
 | cons c t =>
  have e1:decide ((List.length (c :: t):Int) < 1) = false:=decide_eq_false (by simp; omega)
  simp only [e1,cond_false]
  by_cases h:t.length < 24
  ·have e3:decide ((List.length (c :: t):Int) > 24) = false:=decide_eq_false (by simp; omega)
   rw [e3,isName,decide_eq_true h,Bool.true_and,if_neg Bool.false_ne_true]
   obtain ⟨m,rfl⟩:∃ m,n = m + 1:=⟨n - 1,by omega⟩
   rw [h0 m c t rfl]
   have:=scanL (L:=L (c :: t)) (c :: t) (fun x=>if (!q x) = true then some false else none) 1 (by simp; omega)
    (fun k i hi h1=>by rw [hs k i hi h1]; cases q (c :: t)[i] <;> rfl) he m 1 (by omega) (by simp) (by simp; omega)
   rw [show (1:Int) = ((1:Nat):Int) from rfl,this,List.drop_one,List.tail_cons,findSome_anyF,any_not]
   cases p c <;> cases t.all q <;> rfl
  ·have e3:decide ((List.length (c :: t):Int) > 24) = true:=decide_eq_true (by simp; omega)
   rw [e3,isName,decide_eq_false h]; rfl
def va1 (c:UInt8):=name_Variable_1 (c.toNat:Int)
def va2 (c:UInt8):=name_Variable_2 (c.toNat:Int)
theorem i0 {i:Nat} (h:1 ≤ i):((i:Int) == 0) = false:=by rw [beq_eq_false_iff_ne]; omega
theorem name_Variable_eq (n:Nat) (s:BS) (hn:100 ≤ n):name_Variable n s = some (isName va1 va2 s):=by
 have h:name_of__name_Variable_1__name_Variable_2 n s = some (isName va1 va2 s):=kind_impl n (name_of__name_Variable_1__name_Variable_2_l1 n) va1 va2 s hn (fun k i h=>by rw [name_of__name_Variable_1__name_Variable_2_l1,if_pos (lt_i h),if_pos (in_i h),at_i h]; rfl) (fun k=>by rw [name_of__name_Variable_1__name_Variable_2_l1,nlt_n]; rfl)
 unfold name_Variable
 rw [h]; rfl
theorem z_in (c:UInt8) (t:BS):decide (0 ≤ (0:Int) ∧ (0:Int) < (List.length (c :: t):Int)) = true ∧ decide ((0:Int) < (List.length (c :: t):Int)) = true:=⟨decide_eq_true (by rw [List.length_cons]; omega),decide_eq_true (by rw [List.length_cons]; omega)⟩
theorem ref02_Variable_eq (n:Nat) (s:BS) (hn:100 ≤ n):ref02_Variable n s = some (isName va1 va2 s):=by
 unfold ref02_Variable
 exact kind_ref n (ref02_Variable_l1 n) va1 va2 s hn (fun k c t e=>by
   subst e
   rw [ref02_Variable_l1,(z_in c t).1,(z_in c t).2]
   simp only [if_true,Int.toNat_zero,List.getElem?_cons_zero,Option.getD_some,lett,va1,k3,Bool.not_not,beq_self_eq_true,cond_true,show IntKind.wrap .i64 ((0:Int) + 1) = 1 from by decide])
  (fun k i h h1=>by
   rw [ref02_Variable_l1,if_pos (lt_i h),if_pos (in_i h),at_i h]
   simp only [lett,va2,k4,Bool.not_not,i0 h1,cond_false]
   cases (bif (ref02_Kind (s[i].toNat:Int) == 0) then true else decide (ref02_Kind (s[i].toNat:Int) > 4)) <;> rfl)
  (fun k=>by rw [ref02_Variable_l1,nlt_n]; rfl)
theorem strSort_sorted (l:List BS):(strSort l).Pairwise (· ≤ ·):=by
 have:=List.pairwise_mergeSort (le:=fun x y:BS=>decide (x ≤ y)) (fun a b c h1 h2=>by simp only [decide_eq_true_eq] at *; exact bs_le_trans h1 h2) (fun a b=>by simpa using bs_total a b) l
 exact this.imp fun h=>by simpa using h
theorem compact_up (zs:List BS) (hz:zs.Pairwise (· ≤ ·)):∀ m,m ≤ zs.length → Asc (Lib.compactUpTo zs.toArray m) ∧ ∀ x,x ∈ Lib.compactUpTo zs.toArray m ↔ x ∈ zs.take m
 | 0,_=>by simp [Lib.compactUpTo]
 | m + 1,hm=>by
  obtain ⟨h1,h2⟩:=compact_up zs hz m (by omega)
  have hg:∀ j (h:j < zs.length),zs.toArray[j]! = zs[j]:=fun j h=>by simp [h]
  have hle:∀ j (h:j < zs.length),j < m → zs[j] ≤ zs[m]:=fun j h hj=>List.pairwise_iff_getElem.1 hz j m h (by omega) hj
  rw [Lib.compactUpTo_succ,List.take_succ_eq_append_getElem (by omega:m < zs.length)]
  by_cases hk:Lib.keeps zs.toArray m = true
  ·rw [if_pos hk,hg m (by omega)]
   refine ⟨List.pairwise_append.2 ⟨h1,by simp,fun x hx y hy=>?_⟩,fun x=>by rw [List.mem_append,List.mem_append,h2]⟩
   rw [List.mem_singleton.1 hy]
   obtain ⟨j,hj,rfl⟩:=List.mem_take_iff_getElem.1 ((h2 x).1 hx)
   have hjm:j < m:=by omega
   refine bs_lt_of_le_of_ne (hle j (by omega) hjm) fun e=>?_
   have hk':m = 0 ∨ zs.toArray[m]! ≠ zs.toArray[m - 1]!:=by simpa [Lib.keeps] using hk
   rcases hk' with h0 | h0
   ·omega
   ·rw [hg m (by omega),hg (m - 1) (by omega)] at h0
    have a1:zs[j] ≤ zs[m - 1]:=by
     by_cases hq:j = m - 1
     ·subst hq; exact bs_not_lt.1 (bs_irrefl _)
     ·exact List.pairwise_iff_getElem.1 hz j (m - 1) (by omega) (by omega) (by omega)
    have a2:zs[m - 1] ≤ zs[m]:=hle (m - 1) (by omega) (by omega)
    exact h0 (bs_antisymm (e ▸ a1) a2)
  ·rw [if_neg hk,List.append_nil]
   refine ⟨h1,fun x=>?_⟩
   have hk':¬ (m = 0 ∨ zs.toArray[m]! ≠ zs.toArray[m - 1]!):=by simpa [Lib.keeps] using hk
   have hm0:m ≠ 0:=fun e=>hk' (.inl e)
   have he:zs[m] = zs[m - 1]:=by
    have:zs.toArray[m]! = zs.toArray[m - 1]!:=Classical.byContradiction fun h=>hk' (.inr h)
    rwa [hg m (by omega),hg (m - 1) (by omega)] at this
   rw [h2,List.mem_append,List.mem_singleton]
   constructor
   ·exact fun h=>.inl h
   ·rintro (h | h)
    ·exact h
    ·rw [h,he]
     exact List.mem_take_iff_getElem.2 ⟨m - 1,by omega,rfl⟩
theorem compact_srt (l:List BS):Lib.compact (strSort l) = srt l:=by
 obtain ⟨h1,h2⟩:=compact_up (strSort l) (strSort_sorted l) _ (Nat.le_refl _)
 refine Asc.ext h1 (asc_srt l) fun x=>?_
 rw [mem_srt]
 have:=h2 x
 rw [List.take_length] at this
 rw [show Lib.compact (strSort l) = Lib.compactUpTo (strSort l).toArray (strSort l).length from rfl,this]
 exact List.mem_mergeSort
theorem lim17 {a:Nat} (h:a ≤ 1000000):decide (a * 17 ≤ limit) = true:=decide_eq_true (by show a * 17 ≤ 140737488355328; omega)
theorem name_Sorted_eq (n:Nat) (l:List BS) (h:l.length ≤ 1000000):name_Sorted n l = some (srt l):=by
 unfold name_Sorted
 have h1:decide ((List.length ([]:List BS) + List.length l) * (16 + 1) ≤ limit) = true:=cap_add (by simp; omega)
 have h3:(Sh.sort l).length = l.length:=List.length_mergeSort l
 rw [if_pos h1,List.nil_append,if_pos (lim17 h),if_pos (lim17 (by omega))]
 exact congrArg some (compact_srt l)
def aboveB (out:List BS) (x:BS):Bool:=if out.length = 0 then true else decide ((out[out.length - 1]?.getD []) < x)
def Best (l out:List BS) (i:Nat) (v:Int):Prop :=
 (v = -1 ∧ ∀ j (h:j < l.length),j < i → aboveB out l[j] = false) ∨ ∃ (b:Nat) (h:b < l.length),v = (b:Int) ∧ b < i ∧ aboveB out l[b] = true ∧ ∀ j (h:j < l.length),j < i → aboveB out l[j] = true → l[b] ≤ l[j]
theorem last_at {out:List BS} (h0:out.length ≠ 0) (ho:out.length < 1000000):(decide (0 ≤ (IntKind.wrap .i64 ((List.length out:Int) - 1)) ∧ (IntKind.wrap .i64 ((List.length out:Int) - 1)) < (List.length out:Int))) = true ∧ (out[Int.toNat (IntKind.wrap .i64 ((List.length out:Int) - 1))]?.getD []) = (out[out.length - 1]?.getD []):=by
 rw [wrap_p out.length (by omega) (by omega)]
 exact ⟨in_i (by omega),rfl⟩
theorem j3_eq (n:Nat) (l out:List BS) (i:Nat) (v:Int) (hi:i < l.length) (ho:out.length < 1000000) (hv:v = -1 ∨ ∃ b:Nat,v = (b:Int) ∧ b < l.length) :
  ref02_Sorted_j3 n l out v (i:Int) = some (if (aboveB out l[i] && (decide (v < 0) || decide (l[i] < (l[Int.toNat v]?.getD [])))) = true then (i:Int) else v):=by
 have hA:(bif ((List.length out:Int) == 0) then true else (!(Op.bytesLess (l[Int.toNat (i:Int)]?.getD []) (out[Int.toNat (IntKind.wrap .i64 ((List.length out:Int) - 1))]?.getD []) || (l[Int.toNat (i:Int)]?.getD []) == (out[Int.toNat (IntKind.wrap .i64 ((List.length out:Int) - 1))]?.getD [])))) = aboveB out l[i]:=by
  unfold aboveB
  rw [leq_dec,at_i hi]
  by_cases h0:out.length = 0
  ·simp [h0]
  ·have e:((List.length out:Int) == 0) = false:=by rw [beq_eq_false_iff_ne]; omega
   rw [e,if_neg h0,(last_at h0 ho).2,cond_false,Bool.eq_iff_iff]
   simp [bs_not_le]
 unfold ref02_Sorted_j3
 rw [hA]
 have c2:(!(((List.length out:Int) == 0) == false) || decide (0 ≤ (IntKind.wrap .i64 ((List.length out:Int) - 1)) ∧ (IntKind.wrap .i64 ((List.length out:Int) - 1)) < (List.length out:Int))) = true:=by
  by_cases h0:out.length = 0
  ·simp [h0]
  ·rw [(last_at h0 ho).1,Bool.or_true]
 have c4:(!(((decide (v < 0)) == false) && (aboveB out l[i] == true)) || decide (0 ≤ v ∧ v < (List.length l:Int))) = true:=by
  rcases hv with rfl | ⟨b,rfl,hb⟩
  ·simp
  ·rw [in_i hb,Bool.or_true]
 simp only [in_i hi,Bool.or_true,if_true,c2,c4,lett,less_dec,at_i hi]
 cases aboveB out l[i] <;> cases decide (v < 0) <;> simp
 split <;> rfl
theorem best_step {l out:List BS} {i:Nat} {v:Int} (hi:i < l.length) (h:Best l out i v):Best l out (i + 1) (if (aboveB out l[i] && (decide (v < 0) || decide (l[i] < (l[Int.toNat v]?.getD [])))) = true then (i:Int) else v):=by
 cases ha:aboveB out l[i] with
 | false =>
  rw [Bool.false_and,if_neg Bool.false_ne_true]
  rcases h with ⟨rfl,h⟩ | ⟨b,hb,rfl,hbi,hab,h⟩
  ·refine .inl ⟨rfl,fun j hj hji=>?_⟩
   by_cases e:j = i
   ·subst e; exact ha
   ·exact h j hj (by omega)
  ·refine .inr ⟨b,hb,rfl,by omega,hab,fun j hj hji haj=>?_⟩
   by_cases e:j = i
   ·subst e; rw [ha] at haj; cases haj
   ·exact h j hj (by omega) haj
 | true =>
  rw [Bool.true_and]
  rcases h with ⟨rfl,h⟩ | ⟨b,hb,rfl,hbi,hab,h⟩
  ·rw [if_pos (by simp)]
   refine .inr ⟨i,hi,rfl,by omega,ha,fun j hj hji haj=>?_⟩
   by_cases e:j = i
   ·subst e; exact bs_not_lt.1 (bs_irrefl _)
   ·rw [h j hj (by omega)] at haj; cases haj
  ·have e0:decide ((b:Int) < 0) = false:=decide_eq_false (by omega)
   rw [e0,Bool.false_or,at_i hb]
   by_cases hlt:l[i] < l[b]
   ·rw [if_pos (decide_eq_true hlt)]
    refine .inr ⟨i,hi,rfl,by omega,ha,fun j hj hji haj=>?_⟩
    by_cases e:j = i
    ·subst e; exact bs_not_lt.1 (bs_irrefl _)
    ·exact bs_le_trans (bs_le_of_lt hlt) (h j hj (by omega) haj)
   ·rw [if_neg (by simpa using hlt)]
    refine .inr ⟨b,hb,rfl,by omega,hab,fun j hj hji haj=>?_⟩
    by_cases e:j = i
    ·subst e; exact bs_not_lt.1 hlt
    ·exact h j hj (by omega) haj
theorem l2_eq (n:Nat) (l out:List BS) (hl:l.length < 1000000) (ho:out.length < 1000000):∀ (k i:Nat) (v:Int),i ≤ l.length → l.length - i < k → Best l out i v → ∃ r,ref02_Sorted_l2 n l out k v (i:Int) = some r ∧ Best l out l.length r
 | 0,i,v,_,h,_=>by omega
 | k + 1,i,v,h1,h2,hb=>by
  rw [ref02_Sorted_l2]
  by_cases h:i < l.length
  ·have hv:v = -1 ∨ ∃ b:Nat,v = (b:Int) ∧ b < l.length:=by
    rcases hb with ⟨e,_⟩ | ⟨b,hb,e,_⟩
    ·exact .inl e
    ·exact .inr ⟨b,e,hb⟩
   rw [if_pos (lt_i h),j3_eq n l out i v h ho hv,Option.bind_some,wrap_s i (by omega)]
   exact l2_eq n l out hl ho k (i + 1) _ (by omega) (by omega) (best_step h hb)
  ·have:i = l.length:=by omega
   subst this
   rw [if_neg (by rw [nlt_n]; exact Bool.false_ne_true)]
   exact ⟨v,rfl,hb⟩
theorem l1_eq (n:Nat) (l:List BS) (hl:l.length < 100000) (hn:100000 ≤ n):∀ (k m:Nat),m ≤ (srt l).length → (srt l).length - m < k → ref02_Sorted_l1 n l k ((srt l).take m) = some (srt l)
 | 0,m,_,h=>by omega
 | k + 1,m,h1,h2=>by
  have hlen:=srt_length_le l
  have hA:=asc_srt l
  have htl:((srt l).take m).length = m:=by rw [List.length_take]; omega
  have hab:∀ x,aboveB ((srt l).take m) x = true ↔ (m = 0 ∨ ∃ h:m - 1 < (srt l).length,(srt l)[m - 1] < x):=by
   intro x
   unfold aboveB
   rw [htl]
   by_cases h0:m = 0
   ·simp [h0]
   ·rw [if_neg h0,List.getElem?_take,if_pos (by omega),List.getElem?_eq_getElem (by omega)]
    simp [h0]
    constructor
    ·exact fun h=>⟨by omega,h⟩
    ·exact fun ⟨_,h⟩=>h
  obtain ⟨r,hr,hb⟩:=l2_eq n l ((srt l).take m) (by omega) (by omega) n 0 (-1) (by omega) (by omega) (.inl ⟨rfl,fun j _ h=>by omega⟩)
  have hr:ref02_Sorted_l2 n l ((srt l).take m) n (-1) 0 = some r:=hr
  rw [ref02_Sorted_l1,hr,Option.bind_some]
  rcases hb with ⟨rfl,hb⟩ | ⟨b,hbl,rfl,_,hcb,hb⟩
  ·have hm:m = (srt l).length:=by
    refine Classical.byContradiction fun hne=>?_
    have hmT:m < (srt l).length:=by omega
    obtain ⟨j,hj,e⟩:=List.mem_iff_getElem.1 (mem_srt.1 (List.getElem_mem hmT))
    have:=hb j hj hj
    rw [e] at this
    have h3:aboveB ((srt l).take m) (srt l)[m] = true:=by
     rw [hab]
     by_cases h0:m = 0
     ·exact .inl h0
     ·exact .inr ⟨by omega,List.pairwise_iff_getElem.1 hA (m - 1) m (by omega) hmT (by omega)⟩
    rw [this] at h3; cases h3
   rw [if_pos (by decide)]
   subst hm
   rw [List.take_length]
  ·obtain ⟨j,hj,e⟩:=List.mem_iff_getElem.1 (mem_srt.2 (List.getElem_mem hbl):l[b] ∈ srt l)
   have hmj:m ≤ j:=by
    rcases (hab _).1 hcb with h0 | ⟨h0,h3⟩
    ·omega
    ·refine Classical.byContradiction fun hne=>?_
     rw [← e] at h3
     by_cases hq:j = m - 1
     ·subst hq; exact bs_irrefl _ h3
     ·exact bs_irrefl _ (bs_trans h3 (List.pairwise_iff_getElem.1 hA j (m - 1) hj h0 (by omega)))
   have hmT:m < (srt l).length:=by omega
   have hbm:l[b] = (srt l)[m]:=by
    obtain ⟨j',hj',e'⟩:=List.mem_iff_getElem.1 (mem_srt.1 (List.getElem_mem hmT))
    have h3:aboveB ((srt l).take m) (srt l)[m] = true:=by
     rw [hab]
     by_cases h0:m = 0
     ·exact .inl h0
     ·exact .inr ⟨by omega,List.pairwise_iff_getElem.1 hA (m - 1) m (by omega) hmT (by omega)⟩
    have h4:=hb j' hj' hj' (by rw [e']; exact h3)
    rw [e'] at h4
    refine bs_antisymm h4 ?_
    rw [← e]
    by_cases hq:j = m
    ·subst hq; exact bs_not_lt.1 (bs_irrefl _)
    ·exact bs_le_of_lt (List.pairwise_iff_getElem.1 hA m j hmT hj (by omega))
   have e0:decide ((b:Int) < 0) = false:=decide_eq_false (by omega)
   have hc:decide ((List.length ((srt l).take m) + List.length ([l[b]]:List BS)) * (16 + 1) ≤ limit) = true:=cap_add (by rw [htl]; simp; omega)
   rw [e0,if_neg Bool.false_ne_true,if_pos (in_i hbl),at_i hbl,if_pos hc,hbm,← List.take_succ_eq_append_getElem hmT]
   exact l1_eq n l hl hn k (m + 1) (by omega) (by omega)
theorem ref02_Sorted_eq (n:Nat) (l:List BS) (hl:l.length < 10000) (hn:100000 ≤ n):ref02_Sorted n l = some (srt l):=by
 unfold ref02_Sorted
 have:=l1_eq n l (by omega) hn n 0 (by omega) (by have:=srt_length_le l; omega)
 rw [List.take_zero] at this
 rw [this]; rfl
abbrev Vr:=S_api_Var
def lastV (l:List Vr) (x:BS):Option BS:=(l.reverse.find? fun v=>v.f_Key == x).map (·.f_Val)
theorem lastV_snoc (l:List Vr) (v:Vr) (x:BS):lastV (l ++ [v]) x = if v.f_Key = x then some v.f_Val else lastV l x:=by
 unfold lastV
 rw [List.reverse_append,List.reverse_singleton,List.singleton_append,List.find?_cons]
 by_cases h:v.f_Key = x
 ·rw [if_pos h,show (v.f_Key == x) = true by rw [h]; exact beq_self_eq_true _]; rfl
 ·rw [if_neg h,show (v.f_Key == x) = false by rw [beq_eq_false_iff_ne]; exact h]
theorem lastV_none {l:List Vr} {x:BS} (h:x ∉ l.map (·.f_Key)):lastV l x = none:=by
 unfold lastV
 rw [Option.map_eq_none_iff,List.find?_eq_none]
 intro v hv e
 exact h (List.mem_map.2 ⟨v,List.mem_reverse.1 hv,by simpa using e⟩)
def gat (l:List Vr):List Vr:=(srt (l.map (·.f_Key))).map fun k=>⟨k,(lastV l k).getD []⟩
def Short (l:List Vr):Prop:=∀ v ∈ l,isName va1 va2 v.f_Key = true
theorem cap33 {a b:Nat} (h:a + b ≤ 1000000000):decide ((a + b) * (32 + 1) ≤ limit) = true:=decide_eq_true (by show (a + b) * (32 + 1) ≤ 140737488355328; omega)
theorem foldl_snoc {α β:Type} (g:α → β):∀ (l:List α) (acc:List β),l.foldl (fun acc x=>acc ++ [g x]) acc = acc ++ l.map g
 | [],acc=>by simp
 | x :: l,acc=>by rw [List.foldl_cons,foldl_snoc g l,List.append_assoc]; rfl
theorem last_l1 (n:Nat) (l:List Vr) (x:BS) (hl:l.length ≤ 100000):∀ (j k:Nat),j ≤ l.length → j < k → ref12_Last_l1 n l x k ((j:Int) - 1) = some (match lastV (l.take j) x with | none=>.inl () | some v=>.inr (v,true))
 | 0,k,_,h=>by
  obtain ⟨k,rfl⟩:∃ k',k = k' + 1:=⟨k - 1,by omega⟩
  rw [ref12_Last_l1,if_neg (by simp)]; rfl
 | j + 1,k,hj,h=>by
  obtain ⟨k,rfl⟩:∃ k',k = k' + 1:=⟨k - 1,by omega⟩
  have hx:(((j + 1:Nat):Int) - 1) = (j:Int):=by omega
  rw [ref12_Last_l1,hx,if_pos (decide_eq_true (by omega)),if_pos (in_i (by omega)),at_i (by omega:j < l.length),List.take_succ_eq_append_getElem (by omega),lastV_snoc]
  by_cases hk:l[j].f_Key = x
  ·rw [if_pos (by rw [hk]; exact beq_self_eq_true _),if_pos (in_i (by omega)),if_pos hk]
  ·rw [if_neg (by simpa using hk),if_neg hk,wrap_id _ (by omega) (by omega)]
   exact last_l1 n l x hl j k (by omega) (by omega)
theorem last_eq (n:Nat) (l:List Vr) (x:BS) (hl:l.length ≤ 100000) (hn:l.length < n):ref12_Last n l x = some ((lastV l x).getD [],(lastV l x).isSome):=by
 unfold ref12_Last
 have:=last_l1 n l x hl l.length n (Nat.le_refl _) hn
 rw [List.take_length] at this
 rw [wrap_id _ (by omega) (by omega),this]
 cases lastV l x <;> rfl
def vl (l:List Vr):List Vr:=l.filter fun v=>isName va1 va2 v.f_Key
theorem vl_short (l:List Vr):Short (vl l):=fun v h=>(List.mem_filter.1 h).2
theorem lastV_vl {x:BS} (hx:isName va1 va2 x = true) (l:List Vr):lastV (vl l) x = lastV l x:=by
 unfold lastV vl
 rw [← List.filter_reverse]
 generalize l.reverse = r
 congr 1
 induction r with
 | nil=>rfl
 | cons v r ih =>
  rw [List.filter_cons,List.find?_cons]
  by_cases hk:v.f_Key = x
  ·have hb:(v.f_Key == x) = true:=by rw [hk]; exact beq_self_eq_true _
   rw [if_pos (by rw [hk]; exact hx),List.find?_cons,hb]
  ·have hb:(v.f_Key == x) = false:=by rw [beq_eq_false_iff_ne]; exact hk
   rw [hb]
   split
   ·rw [List.find?_cons,hb]; exact ih
   ·exact ih
theorem vl_len (l:List Vr):(vl l).length ≤ l.length:=List.length_filter_le ..
theorem gat_l1 (n:Nat) (l:List Vr) (hl:l.length ≤ 100000) (hn:l.length < n) (hn2:100 ≤ n):ref12_Gathered_l1 n l n [] 0 = some ((vl l).map (·.f_Key)):=by
 have:=(gather (L:=ref12_Gathered_l1 n l) l (fun (acc:List BS) v=>if isName va1 va2 v.f_Key = true then acc ++ [v.f_Key] else acc) id (fun i acc=>acc.length ≤ i) (by omega)
  (fun k acc i h hI=>by
   rw [ref12_Gathered_l1,if_pos (lt_i h)]
   unfold ref12_Gathered_j2
   rw [if_pos (in_i h),at_i h,ref02_Variable_eq n _ hn2,Option.bind_some]
   cases isName va1 va2 l[i].f_Key with
   | true=>rw [if_pos rfl,if_pos rfl,if_pos (in_i h),if_pos (cap_add (by simp; omega))]; rfl
   | false=>rfl)
  (fun acc i h hI=>by
   show (if isName va1 va2 l[i].f_Key = true then acc ++ [l[i].f_Key] else acc).length ≤ i + 1
   split
   ·rw [List.length_append]; exact Nat.succ_le_succ hI
   ·omega)
  (fun k acc _=>by rw [ref12_Gathered_l1,nlt_n]; rfl) n 0 [] (by omega) (by omega) (by simp)).1
 rw [show (0:Int) = ((0:Nat):Int) from rfl,this,List.drop_zero]
 congr 1
 have:∀ (l:List Vr) (acc:List BS),l.foldl (fun (acc:List BS) v=>if isName va1 va2 v.f_Key = true then acc ++ [v.f_Key] else acc) acc = acc ++ (vl l).map (·.f_Key):=by
  intro l
  induction l with
  | nil=>intro acc; simp [vl]
  | cons v r ih =>
   intro acc
   rw [List.foldl_cons,ih]
   unfold vl
   rw [List.filter_cons]
   split <;> simp
 exact (this l []).trans (List.nil_append _)
theorem gat_l3 (n:Nat) (l:List Vr) (ks:List BS) (hl:l.length ≤ 100000) (hn:l.length < n) (hk:ks.length ≤ 100000) (hn2:ks.length < n):ref12_Gathered_l3 n l ks n [] 0 = some (ks.map fun k=>⟨k,(lastV l k).getD []⟩):=by
 have:=(gather (L:=ref12_Gathered_l3 n l ks) ks (fun (acc:List Vr) k=>acc ++ [⟨k,(lastV l k).getD []⟩]) id (fun i acc=>acc.length ≤ i) (by omega)
  (fun k acc i h hI=>by
   rw [ref12_Gathered_l3,if_pos (lt_i h),if_pos (in_i h),at_i h,last_eq n l _ hl hn,Option.bind_some,if_pos (in_i h),if_pos (cap33 (by simp; omega))])
  (fun acc i h hI=>by rw [List.length_append]; simpa using hI)
  (fun k acc _=>by rw [ref12_Gathered_l3,nlt_n]; rfl) n 0 [] (by omega) (by omega) (by simp)).1
 rw [show (0:Int) = ((0:Nat):Int) from rfl,this,List.drop_zero,foldl_snoc,List.nil_append]; rfl
theorem gathered_eq (n:Nat) (l:List Vr) (hl:l.length < 10000) (hn:200000 ≤ n):ref12_Gathered n l = some (gat (vl l)):=by
 have h1:=vl_len l
 have hle:=srt_length_le ((vl l).map (·.f_Key))
 rw [List.length_map] at hle
 unfold ref12_Gathered
 rw [gat_l1 n l (by omega) (by omega) (by omega),Option.bind_some,ref02_Sorted_eq n _ (by rw [List.length_map]; omega) (by omega),Option.bind_some,gat_l3 n l _ (by omega) (by omega) (by omega) (by omega),Option.bind_some]
 congr 1
 unfold gat
 refine List.map_congr_left fun k hk=>?_
 obtain ⟨v,hv,e⟩:=List.mem_map.1 (mem_srt.1 hk)
 rw [lastV_vl (by rw [← e]; exact vl_short l v hv)]
theorem few12 (n:Nat) (l:List Vr) (m:Nat) (hm:m ≤ 1000) (hn:100000 ≤ n):∃ b,law12_Few n l (m:Int) = some b ∧ (b = true → l.length ≤ m ∧ ∀ v ∈ l,v.f_Val.length ≤ 100):=by
 unfold law12_Few
 by_cases h:l.length ≤ m
 ·rw [if_neg (by simp; omega)]
  have:=scanL (L:=law12_Few_l1 n l) l (fun v=>if (bif decide ((v.f_Key.length:Int) > 100) then true else decide ((v.f_Val.length:Int) > 100)) = true then some false else none) 0 (by omega)
   (fun k i h _=>by
    rw [law12_Few_l1,if_pos (lt_i h),if_pos (in_i h),in_i h,at_i h,Bool.or_true,if_pos rfl]
    simp only [lett]
    cases (bif decide ((l[i].f_Key.length:Int) > 100) then true else decide ((l[i].f_Val.length:Int) > 100)) <;> rfl) (fun k=>by rw [law12_Few_l1,nlt_n]; rfl) n 0 (by omega) (by omega) (by omega)
  rw [show (0:Int) = ((0:Nat):Int) from rfl,this,List.drop_zero]
  clear this
  cases hf:l.findSome? (fun v=>if (bif decide ((v.f_Key.length:Int) > 100) then true else decide ((v.f_Val.length:Int) > 100)) = true then some false else none) with
  | none =>
   refine ⟨true,rfl,fun _=>⟨h,fun v hv=>?_⟩⟩
   have h1:=List.findSome?_eq_none_iff.1 hf v hv
   by_cases c:v.f_Val.length ≤ 100
   ·exact c
   ·rw [decide_eq_true (by omega:(v.f_Val.length:Int) > 100)] at h1
    rw [if_pos (by cases decide ((v.f_Key.length:Int) > 100) <;> rfl)] at h1
    cases h1
  | some b =>
   obtain ⟨v,_,h1⟩:=List.exists_of_findSome?_eq_some hf
   refine ⟨b,rfl,fun hb=>?_⟩
   subst hb
   split at h1 <;> cases h1
 ·rw [if_pos (decide_eq_true (by omega))]
  exact ⟨false,rfl,fun h=>by cases h⟩
def of12 (l:List Vr):List Vr:=(gat (vl l)).take 64
def firstV (l:List Vr) (x:BS):Option BS:=(l.find? fun v=>v.f_Key == x).map (·.f_Val)
theorem firstV_cons (v:Vr) (r:List Vr) (x:BS):firstV (v :: r) x = if v.f_Key = x then some v.f_Val else firstV r x:=by
 unfold firstV
 rw [List.find?_cons]
 by_cases h:v.f_Key = x
 ·rw [if_pos h,show (v.f_Key == x) = true by rw [h]; exact beq_self_eq_true _]; rfl
 ·rw [if_neg h,show (v.f_Key == x) = false by rw [beq_eq_false_iff_ne]; exact h]
theorem lastV_cons (v:Vr) (r:List Vr) (x:BS):lastV (v :: r) x = match lastV r x with | some w=>some w | none=>if v.f_Key = x then some v.f_Val else none:=by
 unfold lastV
 rw [List.reverse_cons,List.find?_append]
 cases r.reverse.find? (fun v=>v.f_Key == x) with
 | some w=>rfl
 | none =>
  rw [Option.none_or,List.find?_cons]
  by_cases h:v.f_Key = x
  ·rw [show (v.f_Key == x) = true by rw [h]; exact beq_self_eq_true _]; simp [h]
  ·rw [show (v.f_Key == x) = false by rw [beq_eq_false_iff_ne]; exact h]; simp [h]
theorem first_last {l:List Vr} (h:(l.map (·.f_Key)).Nodup) (x:BS):firstV l x = lastV l x:=by
 induction l with
 | nil=>rfl
 | cons v r ih =>
  rw [List.map_cons,List.nodup_cons] at h
  rw [firstV_cons,lastV_cons,ih h.2]
  by_cases hv:v.f_Key = x
  ·rw [if_pos hv,lastV_none (by rw [← hv]; exact h.1),if_pos hv]
  ·rw [if_neg hv]
   cases lastV r x with
   | some w=>rfl
   | none=>rw [if_neg hv]
theorem get_eq (n:Nat) (l:List Vr) (x:BS) (hl:l.length ≤ 100000) (hn:l.length < n):env_Get n l x = some ((firstV l x).getD [],(firstV l x).isSome):=by
 unfold env_Get
 have:=scanL (L:=env_Get_l1 n x l (l.length:Int)) l (fun v=>if v.f_Key = x then some (v.f_Val,true) else none) 0 (by omega)
  (fun k i h _=>by
   rw [env_Get_l1,if_pos (lt_i h),if_pos (in_i h),at_i h]
   by_cases c:l[i].f_Key = x
   ·rw [if_pos (by rw [c]; exact beq_self_eq_true _),if_pos c]
   ·rw [if_neg (by simpa using c),if_neg c]) (fun k=>by rw [env_Get_l1,nlt_n]; rfl) n 0 (by omega) (by omega) (by omega)
 rw [show (0:Int) = ((0:Nat):Int) from rfl,this,List.drop_zero]
 have e:∀ l:List Vr,l.findSome? (fun v=>if v.f_Key = x then some (v.f_Val,true) else none) = (firstV l x).map fun w=>(w,true):=by
  intro l
  induction l with
  | nil=>rfl
  | cons v r ih =>
   rw [List.findSome?_cons,firstV_cons]
   by_cases c:v.f_Key = x
   ·rw [if_pos c,if_pos c]; rfl
   ·rw [if_neg c,if_neg c]; exact ih
 rw [e]
 cases firstV l x <;> rfl
theorem gat_keys (l:List Vr):(gat l).map (·.f_Key) = srt (l.map (·.f_Key)):=by
 unfold gat
 rw [List.map_map]
 exact List.map_id _
theorem of_asc (l:List Vr):Asc ((of12 l).map (·.f_Key)):=by
 unfold of12
 rw [List.map_take,gat_keys]
 exact (asc_srt _).sublist (List.take_sublist ..)
theorem lastV_mem {l:List Vr} {x v:BS} (h:lastV l x = some v):∃ w ∈ l,w.f_Key = x ∧ w.f_Val = v:=by
 unfold lastV at h
 obtain ⟨w,h1,h2⟩:=Option.map_eq_some_iff.1 h
 exact ⟨w,List.mem_reverse.1 (List.mem_of_find?_eq_some h1),by simpa using List.find?_some h1,h2⟩
theorem of_mem {l:List Vr} (hl:∀ v ∈ l,v.f_Val.length ≤ 100) {v:Vr} (h:v ∈ of12 l):isName va1 va2 v.f_Key = true ∧ v.f_Val.length ≤ 100:=by
 have h:=List.mem_of_mem_take h
 unfold gat at h
 obtain ⟨k,hk,rfl⟩:=List.mem_map.1 h
 obtain ⟨w,hw,rfl⟩:=List.mem_map.1 (mem_srt.1 hk)
 refine ⟨vl_short l w hw,?_⟩
 show ((lastV (vl l) w.f_Key).getD []).length ≤ 100
 cases hx:lastV (vl l) w.f_Key with
 | none=>exact Nat.zero_le _
 | some u =>
  obtain ⟨z,h1,_,h3⟩:=lastV_mem hx
  rw [Option.getD_some,← h3]
  exact hl z (List.mem_filter.1 h1).1
theorem of_len (l:List Vr):(of12 l).length ≤ 64:=by
 unfold of12
 rw [List.length_take]; omega
theorem rof_eq (n:Nat) (l:List Vr) (hl:l.length ≤ 9000) (hn:200000 ≤ n):ref12_Of n l = some (of12 l):=by
 unfold ref12_Of
 rw [gathered_eq n l (by omega) hn,Option.bind_some]
 unfold of12
 by_cases h:(gat (vl l)).length ≤ 64
 ·rw [if_neg (by simp; omega),List.take_of_length_le h]
 ·rw [if_pos (decide_eq_true (by omega)),if_pos (decide_eq_true (by omega))]; rfl
def varB (s:BS):Bool:=isName va1 va2 s
theorem name_Variable_eqB (n:Nat) (s:BS) (hn:100 ≤ n):name_Variable n s = some (varB s):=name_Variable_eq n s hn
theorem varB_ne {s:BS} (h:varB s = true):s ≠ []:=by intro e; subst e; cases h
abbrev TP:=S_tmpl_Part
abbrev Rd:=S_tmpl_reader
theorem b36 (c:UInt8):((c.toNat:Int) == 36) = decide (c = 36):=beq_byte c 36 (by decide)
theorem m36 (c:UInt8):((c.toNat:Int) != 36) = !decide (c = 36):=by rw [← b36]; rfl
theorem b125 (c:UInt8):((c.toNat:Int) == 125) = decide (c = 125):=beq_byte c 125 (by decide)
theorem m125 (c:UInt8):((c.toNat:Int) != 125) = !decide (c = 125):=by rw [← b125]; rfl
theorem hp1 (l:BS) (c:UInt8):Lib.hasPrefix l [c] = decide (l.head? = some c):=by
 cases l with
 | nil=>rfl
 | cons d l =>
  simp only [Lib.hasPrefix,List.isPrefixOf,List.head?_cons,Option.some.injEq,Bool.and_true]
  by_cases h:c = d
  ·subst h; simp
  ·rw [decide_eq_false (fun e=>h e.symm)]; simpa using h
def fl (w:BS):List TP:=if w = [] then [] else [S_tmpl_Part.mk [] w 0 []]
theorem fl_len (w:BS):(fl w).length ≤ w.length:=by
 unfold fl; split
 ·simp
 ·rename_i h; have:=List.length_pos_iff.2 h; simp; omega
theorem set_last {α:Type} (l:List α) (z x:α):List.set (l ++ [z]) (Int.toNat (l.length:Int)) x = l ++ [x]:=by
 rw [tn,List.set_append_right _ _ (Nat.le_refl _)]; simp
theorem cap65 {α:Type} (l:List α) (z:α) (h:l.length ≤ 1000000):decide ((List.length l + List.length ([z]:List α)) * (64 + 1) ≤ limit) = true:=decide_eq_true (by show (l.length + 1) * (64 + 1) ≤ 140737488355328; omega)
theorem in_last {α:Type} (l:List α) (z:α):decide (0 ≤ (List.length l:Int) ∧ (List.length l:Int) < (List.length (l ++ [z]):Int)) = true:=decide_eq_true (by simp; omega)
theorem flush_eq (n:Nat) (w:BS) (out:List TP) (h:out.length ≤ 1000000):tmpl_reader_parts_1__o0__o1 n w out = some ([],out ++ fl w):=by
 unfold tmpl_reader_parts_1__o0__o1 fl
 by_cases hw:w = []
 ·subst hw; simp
 ·have hp:decide ((List.length w:Int) > 0) = true:=decide_eq_true (by have:=List.length_pos_iff.2 hw; omega)
  rw [if_pos hp,if_pos (cap65 _ _ h),if_pos (in_last _ _),set_last,if_neg hw]; rfl
def wordB (c:UInt8):Bool:=tmpl_word (c.toNat:Int)
def nmOf (r:BS):BS:=r.takeWhile wordB
def afOf (r:BS):BS:=r.dropWhile wordB
theorem nm_af (r:BS):nmOf r ++ afOf r = r:=List.takeWhile_append_dropWhile
theorem nm_take (r:BS):List.take (nmOf r).length r = nmOf r:=by
 have h:=nm_af r
 generalize nmOf r = x at h ⊢
 generalize afOf r = y at h
 subst h
 exact List.take_left
theorem nm_len (r:BS):(nmOf r).length ≤ r.length:=by have:=congrArg List.length (nm_af r); simp at this; omega
theorem af_drop (s:BS) (i:Nat):afOf (s.drop i) = s.drop (i + (nmOf (s.drop i)).length):=by
 have h:=nm_af (s.drop i)
 rw [← List.drop_drop]
 conv=>rhs; rw [← h]
 rw [List.drop_left' (by rw [h])]
theorem name_l (n:Nat) (v:Int) (s:BS) (e:Int) (hs:s.length ≤ 100000):∀ (k i:Nat),i ≤ s.length → s.length - i < k → tmpl_reader_name__o0_l1 n v k (S_tmpl_reader.mk s (i:Int) e) = some (S_tmpl_reader.mk s ((i + (nmOf (s.drop i)).length:Nat):Int) e)
 | 0,i,_,h=>by omega
 | k + 1,i,h1,h2=>by
  rw [tmpl_reader_name__o0_l1]
  by_cases h:i < s.length
  ·simp only [lt_i h,in_i h,at_i h,Bool.or_true,if_true,lett,cond_true]
   rw [drop_at h]
   have hn:nmOf (s[i] :: s.drop (i + 1)) = if wordB s[i] = true then s[i] :: nmOf (s.drop (i + 1)) else []:=List.takeWhile_cons
   rw [hn]
   by_cases hw:wordB s[i] = true
   ·rw [if_pos hw,if_pos (by exact hw),wrap_s i (by omega),name_l n v s e hs k (i + 1) (by omega) (by omega)]
    simp only [List.length_cons]
    rw [show i + 1 + (nmOf (List.drop (i + 1) s)).length = i + ((nmOf (List.drop (i + 1) s)).length + 1) by omega]
   ·rw [if_neg hw,if_neg (by exact hw)]; rfl
  ·have hl:decide ((i:Int) < (List.length s:Int)) = false:=nlt_i (Nat.not_lt.1 h)
   simp only [hl,cond_false,Bool.false_eq_true,if_false]
   rw [List.drop_eq_nil_of_le (by omega)]; rfl
theorem name_eq (n:Nat) (s:BS) (i:Nat) (hn:100001 ≤ n) (hs:s.length ≤ 100000) (hi:i ≤ s.length):tmpl_reader_name__o0 n (S_tmpl_reader.mk s (i:Int) 0) =
  some (nmOf (s.drop i),S_tmpl_reader.mk s ((i + (nmOf (s.drop i)).length:Nat):Int) (if varB (nmOf (s.drop i)) = true then 0 else 3)):=by
 have hlen:=nm_len (s.drop i)
 rw [List.length_drop] at hlen
 unfold tmpl_reader_name__o0
 rw [name_l n _ s 0 hs n i hi (by omega),Option.bind_some]
 simp only
 have c1:decide (0 ≤ ((i + (nmOf (s.drop i)).length:Nat):Int) ∧ ((i + (nmOf (s.drop i)).length:Nat):Int) ≤ (List.length s:Int)) = true:=le_i (by omega)
 have c2:decide (0 ≤ (i:Int) ∧ (i:Int) ≤ ((i + (nmOf (s.drop i)).length:Nat):Int)) = true:=le_ij (by omega)
 have ht:List.take (Int.toNat ((i + (nmOf (s.drop i)).length:Nat):Int) - Int.toNat (i:Int)) (List.drop (Int.toNat (i:Int)) s) = nmOf (s.drop i):=by
  rw [tn,tn,Nat.add_sub_cancel_left]
  exact nm_take _
 rw [if_pos c1,if_pos c2,ht,name_Variable_eqB n _ (by omega),Option.bind_some]
 unfold tmpl_reader_name__o0_j2
 cases hv:varB (nmOf (s.drop i)) with
 | true =>
  simp only [Bool.not_true,Bool.false_eq_true,if_false,Option.bind_some,if_true]
  rw [if_pos c1,if_pos c2,ht]
 | false =>
  simp only [Bool.not_false,if_true,Option.bind_some,Bool.false_eq_true,if_false]
  rw [if_pos c1,if_pos c2,ht]
def mk:BS → Nat × Nat
 | []=>(1,0)
 | c :: r=>if c = 45 then (3,1) else if c = 63 then (5,1) else if c = 43 then (7,1) else if c = 58 then (match r with | []=>(1,0) | d :: _=>if d = 45 then (2,2) else if d = 63 then (4,2) else if d = 43 then (6,2) else (1,0)) else (1,0)
def marks:List BS:=[[],[],[58,45],[45],[58,63],[63],[58,43],[43]]
theorem marks_eq (n:Nat):tmpl_marks n = some marks:=rfl
def mst (r:BS) (p:Int × Int) (i:Nat) (m:BS):Int × Int:=if (decide ((List.length m:Int) > p.2) && Lib.hasPrefix r m) = true then ((i:Int),(List.length m:Int)) else p
theorem mark_j (n:Nat) (s:BS) (a:Nat) (e b l:Int) (i:Nat) (m:BS) (ha:a ≤ s.length) (hi:i < 8) (hm:marks[i]? = some m):tmpl_reader_mark__o0_j2 n b l marks (i:Int) (S_tmpl_reader.mk s (a:Int) e) = some (mst (s.drop a) (b,l) i m):=by
 unfold tmpl_reader_mark__o0_j2 mst
 have c1:decide (0 ≤ (i:Int) ∧ (i:Int) < (8:Int)) = true:=decide_eq_true (by omega)
 have c2:decide (List.length marks = 8) = true:=rfl
 have hg:marks[i]?.getD [] = m:=by rw [hm]; rfl
 simp only [c1,c2,tn,hg,le_i ha,if_true,Bool.or_true,lett]
 cases decide ((List.length m:Int) > l) with
 | true =>
  simp only [cond_true,Bool.true_and]
  cases Lib.hasPrefix (List.drop a s) m <;> rfl
 | false=>rfl
theorem mark_s (n k:Nat) (s:BS) (a:Nat) (e:Int) (p:Int × Int) (i:Nat) (m:BS) (ha:a ≤ s.length) (hi:i < 8) (hm:marks[i]? = some m):tmpl_reader_mark__o0_l1 n marks (S_tmpl_reader.mk s (a:Int) e) (k + 1) p.1 p.2 (i:Int) =
  tmpl_reader_mark__o0_l1 n marks (S_tmpl_reader.mk s (a:Int) e) k (mst (s.drop a) p i m).1 (mst (s.drop a) p i m).2 ((i + 1:Nat):Int):=by
 rw [tmpl_reader_mark__o0_l1,if_pos (decide_eq_true (by omega)),mark_j n s a e p.1 p.2 i m ha hi hm,Option.bind_some,wrap_s i (by omega)]
theorem mst_all (r:BS):mst r (mst r (mst r (mst r (mst r (mst r (mst r (mst r (1,0) 0 []) 1 []) 2 [58,45]) 3 [45]) 4 [58,63]) 5 [63]) 6 [58,43]) 7 [43] = (((mk r).1:Int),((mk r).2:Int)):=by
 cases r with
 | nil=>rfl
 | cons c r =>
  by_cases h45:c = 45
  ·subst h45; simp [mst,mk,Lib.hasPrefix,List.isPrefixOf]
  ·by_cases h63:c = 63
   ·subst h63; simp [mst,mk,Lib.hasPrefix,List.isPrefixOf]
   ·by_cases h43:c = 43
    ·subst h43; simp [mst,mk,Lib.hasPrefix,List.isPrefixOf]
    ·have n45:((45:UInt8) == c) = false:=by simpa using fun e=>h45 e.symm
     have n63:((63:UInt8) == c) = false:=by simpa using fun e=>h63 e.symm
     have n43:((43:UInt8) == c) = false:=by simpa using fun e=>h43 e.symm
     by_cases h58:c = 58
     ·subst h58
      cases r with
      | nil=>simp [mst,mk,Lib.hasPrefix,List.isPrefixOf]
      | cons d r =>
       by_cases d45:d = 45
       ·subst d45; simp [mst,mk,Lib.hasPrefix,List.isPrefixOf]
       ·by_cases d63:d = 63
        ·subst d63; simp [mst,mk,Lib.hasPrefix,List.isPrefixOf]
        ·by_cases d43:d = 43
         ·subst d43; simp [mst,mk,Lib.hasPrefix,List.isPrefixOf]
         ·have k45:((45:UInt8) == d) = false:=by simpa using fun e=>d45 e.symm
          have k63:((63:UInt8) == d) = false:=by simpa using fun e=>d63 e.symm
          have k43:((43:UInt8) == d) = false:=by simpa using fun e=>d43 e.symm
          simp [mst,mk,Lib.hasPrefix,List.isPrefixOf,k45,k63,k43,d45,d63,d43]
     ·have n58:((58:UInt8) == c) = false:=by simpa using fun e=>h58 e.symm
      simp [mst,mk,Lib.hasPrefix,List.isPrefixOf,n45,n63,n43,n58,h45,h63,h43,h58]
theorem mk_len (r:BS):(mk r).2 ≤ r.length ∧ (mk r).1 ≤ 7 ∧ 1 ≤ (mk r).1 ∧ ((mk r).1 = 1 → (mk r).2 = 0) ∧ (mk r).2 ≤ 2:=by
 cases r with
 | nil=>exact ⟨Nat.zero_le _,by decide,by decide,fun _=>rfl,by decide⟩
 | cons c r =>
  cases r with
  | nil =>
   simp only [mk]
   repeat' split
   all_goals (simp; try omega)
  | cons d r =>
   simp only [mk]
   repeat' split
   all_goals (simp; try omega)
theorem mark_eq (n:Nat) (s:BS) (a:Nat) (e:Int) (hn:100 ≤ n) (hs:s.length ≤ 100000) (ha:a ≤ s.length):tmpl_reader_mark__o0 n (S_tmpl_reader.mk s (a:Int) e) = some (((mk (s.drop a)).1:Int),S_tmpl_reader.mk s ((a + (mk (s.drop a)).2:Nat):Int) e):=by
 unfold tmpl_reader_mark__o0
 rw [marks_eq,Option.bind_some]
 obtain ⟨k,rfl⟩:∃ k,n = k + 1 + 8:=⟨n - 9,by omega⟩
 have hz:tmpl_reader_mark__o0_l1 (k + 1 + 8) marks (S_tmpl_reader.mk s (a:Int) e) (k + 1 + 8) 1 0 0 = some (((mk (s.drop a)).1:Int),((mk (s.drop a)).2:Int)):=by
  have h0:=mark_s (k + 1 + 8) (k + 1 + 7) s a e (1,0) 0 [] ha (by decide) rfl
  have h0:tmpl_reader_mark__o0_l1 (k + 1 + 8) marks (S_tmpl_reader.mk s (a:Int) e) (k + 1 + 8) 1 0 0 = _:=h0
  rw [h0,mark_s _ _ s a e _ 1 [] ha (by decide) rfl,mark_s _ _ s a e _ 2 [58,45] ha (by decide) rfl,mark_s _ _ s a e _ 3 [45] ha (by decide) rfl,mark_s _ _ s a e _ 4 [58,63] ha (by decide) rfl,
   mark_s _ _ s a e _ 5 [63] ha (by decide) rfl,mark_s _ _ s a e _ 6 [58,43] ha (by decide) rfl,mark_s _ _ s a e _ 7 [43] ha (by decide) rfl,mst_all]
  rw [tmpl_reader_mark__o0_l1]
  rfl
 obtain ⟨m1,_,_,_,m5⟩:=mk_len (s.drop a)
 rw [List.length_drop] at m1
 rw [hz,Option.bind_some]
 simp only
 rw [show (a:Int) + ((mk (s.drop a)).2:Int) = ((a + (mk (s.drop a)).2:Nat):Int) by omega,wrap_id _ (by omega) (by omega)]
theorem end_eq (n:Nat) (s:BS) (a:Nat) (hs:s.length ≤ 100000) (ha:a ≤ s.length):tmpl_reader_end__o0 n (S_tmpl_reader.mk s (a:Int) 0) = some (S_tmpl_reader.mk s ((a + 1:Nat):Int) (if (s.drop a).head? = some 125 then 0 else 3)):=by
 unfold tmpl_reader_end__o0 tmpl_reader_end__o0_j1
 have z:((0:Int) == 0) = true:=rfl
 by_cases h:a < s.length
 ·have h1:((a:Int) == (s.length:Int)) = false:=by rw [eq_i]; exact decide_eq_false (by omega)
  simp only [z,h1,in_i h,at_i h,m125,Bool.or_true,if_true,lett,cond_true,cond_false]
  rw [drop_at h,List.head?_cons]
  by_cases hc:s[a] = 125
  ·rw [if_neg (by simp [hc]),Option.bind_some]
   simp only [hc,if_true]
   rw [wrap_s a (by omega)]
  ·rw [if_pos (by simp [hc]),Option.bind_some]
   simp only
   rw [wrap_s a (by omega),if_neg (by simpa using hc)]
 ·have h1:((a:Int) == (s.length:Int)) = true:=by rw [eq_i]; exact decide_eq_true (by omega)
  simp only [z,h1,beq_self_eq_true,Bool.true_eq_false,lett,cond_true,if_true]
  rw [if_pos (show (!(true == false && true) || decide (0 ≤ (a:Int) ∧ (a:Int) < (List.length s:Int))) = true from rfl),Option.bind_some,List.drop_eq_nil_of_le (by omega)]
  simp only
  rw [wrap_s a (by omega)]
  rfl
theorem end_err (n:Nat) (s:BS) (a e:Int) (he:e ≠ 0):tmpl_reader_end__o0 n (S_tmpl_reader.mk s a e) = some (S_tmpl_reader.mk s (IntKind.wrap .i64 (a + 1)) e):=by
 unfold tmpl_reader_end__o0 tmpl_reader_end__o0_j1
 have z:(e == 0) = false:=by simpa using he
 simp only [z]
 simp [lett]
theorem deeper_eq (d:Nat) (s:BS) (a:Int):tmpl_reader_deeper__o0 (d:Int) (S_tmpl_reader.mk s a 0) = (decide (8 < d),S_tmpl_reader.mk s a (if 8 < d then 9 else 0)):=by
 unfold tmpl_reader_deeper__o0 tmpl_reader_deeper__o0_j1
 by_cases h:8 < d
 ·have h1:decide ((d:Int) > 8) = true:=decide_eq_true (by omega)
  simp [h1,h,lett]
 ·have h1:decide ((d:Int) > 8) = false:=decide_eq_false (by omega)
  simp [h1,h,lett]
theorem plain_eq (n d:Nat) (s:BS) (a:Nat) (hn:100001 ≤ n) (hs:s.length ≤ 100000) (ha:a ≤ s.length):tmpl_reader_plain__o0 n (d:Int) (S_tmpl_reader.mk s (a:Int) 0) =
  if 8 < d then some (S_tmpl_Part.mk [] [] 0 [],S_tmpl_reader.mk s (a:Int) 9) else some (S_tmpl_Part.mk (nmOf (s.drop a)) [] 1 [],S_tmpl_reader.mk s ((a + (nmOf (s.drop a)).length:Nat):Int) (if varB (nmOf (s.drop a)) = true then 0 else 3)):=by
 unfold tmpl_reader_plain__o0
 rw [deeper_eq]
 by_cases h:8 < d
 ·simp [h,lett]
 ·simp only [h,decide_false,lett,Bool.false_eq_true,if_false]
  rw [name_eq n s a hn hs ha]; rfl
theorem ref_eq (R:Int → Rd → Option (List TP × Rd)) (n d:Nat) (s:BS) (a:Nat) (hn:100001 ≤ n) (hd:d ≤ 100) (hs:s.length ≤ 100000) (ha:a ≤ s.length):tmpl_reader_reference__o0 R n (d:Int) (S_tmpl_reader.mk s (a:Int) 0) =
  if 8 < d then some (S_tmpl_Part.mk [] [] 0 [],S_tmpl_reader.mk s (a:Int) 9)
  else if varB (nmOf (s.drop a)) = true then
   (if (mk (afOf (s.drop a))).1 = 1 then some (S_tmpl_Part.mk (nmOf (s.drop a)) [] 1 [],S_tmpl_reader.mk s ((a + (nmOf (s.drop a)).length + 1:Nat):Int) (if (afOf (s.drop a)).head? = some 125 then 0 else 3))
   else (R ((d + 1:Nat):Int) (S_tmpl_reader.mk s ((a + (nmOf (s.drop a)).length + (mk (afOf (s.drop a))).2:Nat):Int) 0)).bind fun r4=>(tmpl_reader_end__o0 n r4.2).bind fun r5=>some (S_tmpl_Part.mk (nmOf (s.drop a)) [] ((mk (afOf (s.drop a))).1:Int) r4.1,r5))
  else some (S_tmpl_Part.mk (nmOf (s.drop a)) [] 0 [],S_tmpl_reader.mk s ((a + (nmOf (s.drop a)).length:Nat):Int) 3):=by
 have hlen:=nm_len (s.drop a)
 rw [List.length_drop] at hlen
 unfold tmpl_reader_reference__o0
 rw [deeper_eq]
 by_cases h:8 < d
 ·simp [h,lett]
 ·simp only [h,decide_false,lett,Bool.false_eq_true,if_false]
  rw [name_eq n s a hn hs ha,Option.bind_some]
  cases hv:varB (nmOf (s.drop a)) with
  | false=>rfl
  | true =>
   have z:((0:Int) != 0) = false:=rfl
   simp only [if_true,z,Bool.false_eq_true,if_false]
   rw [mark_eq n s _ 0 (by omega) hs (by omega),Option.bind_some,← af_drop]
   simp only
   unfold tmpl_reader_reference__o0_j1
   obtain ⟨m1,m2,m3,m4,m5⟩:=mk_len (afOf (s.drop a))
   by_cases h1:(mk (afOf (s.drop a))).1 = 1
   ·have c:(((mk (afOf (s.drop a))).1:Int) != 1) = false:=by rw [h1]; rfl
    rw [c,if_neg Bool.false_ne_true,Option.bind_some,if_pos h1,m4 h1,Nat.add_zero]
    simp only
    rw [end_eq n s _ hs (by omega),← af_drop,Option.bind_some,h1]; rfl
   ·have c:(((mk (afOf (s.drop a))).1:Int) != 1) = true:=by simp; omega
    rw [c,if_pos rfl,if_neg h1,wrap_s d (by omega)]
    cases R ((d + 1:Nat):Int) (S_tmpl_reader.mk s ((a + (nmOf (s.drop a)).length + (mk (afOf (s.drop a))).2:Nat):Int) 0) <;> rfl
theorem stop_err (R:Int → Rd → Option (List TP × Rd)) (n k d:Nat) (out:List TP) (w s:BS) (a e:Int) (he:e ≠ 0) (ho:out.length ≤ 1000000):tmpl_reader_parts__o0_g1_0 R n (k + 1) (d:Int) out w (S_tmpl_reader.mk s a e) = some (out ++ fl w,S_tmpl_reader.mk s a e):=by
 have z:(e != 0) = true:=by simpa using he
 rw [tmpl_reader_parts__o0_g1_0]
 simp only [z,cond_true,flush_eq n w out ho]
 simp [lett]
theorem stop_end (R:Int → Rd → Option (List TP × Rd)) (n k d:Nat) (out:List TP) (w s:BS) (ho:out.length ≤ 1000000):tmpl_reader_parts__o0_g1_0 R n (k + 1) (d:Int) out w (S_tmpl_reader.mk s (s.length:Int) 0) = some (out ++ fl w,S_tmpl_reader.mk s (s.length:Int) 0):=by
 have z:((0:Int) != 0) = false:=rfl
 rw [tmpl_reader_parts__o0_g1_0]
 simp only [z,cond_false,flush_eq n w out ho,beq_self_eq_true]
 simp [lett]
theorem step (R:Int → Rd → Option (List TP × Rd)) (n k d:Nat) (out:List TP) (w s:BS) (a:Nat) (h:a < s.length) (hs:s.length ≤ 100000) (ho:out.length ≤ 1000000) (hw:w.length ≤ 1000000):tmpl_reader_parts__o0_g1_0 R n (k + 1) (d:Int) out w (S_tmpl_reader.mk s (a:Int) 0) =
  if 1 < d ∧ s[a] = 125 then some (out ++ fl w,S_tmpl_reader.mk s (a:Int) 0)
  else if s[a] = 36 then (tmpl_reader_parts__o0_j3 R n (d:Int) (((36:UInt8).toNat:Nat):Int) out w (S_tmpl_reader.mk s ((a + 1:Nat):Int) 0)).bind fun o4=>tmpl_reader_parts__o0_g1_0 R n k (d:Int) o4.1 o4.2.1 o4.2.2
  else tmpl_reader_parts__o0_g1_0 R n k (d:Int) out (w ++ [s[a]]) (S_tmpl_reader.mk s ((a + 1:Nat):Int) 0):=by
 have z:((0:Int) != 0) = false:=rfl
 have ha:((a:Int) == (s.length:Int)) = false:=by rw [eq_i]; exact decide_eq_false (by omega)
 have hc:decide ((List.length w + List.length ([s[a]]:List UInt8)) * (1 + 1) ≤ limit) = true:=decide_eq_true (by show (w.length + 1) * (1 + 1) ≤ 140737488355328; omega)
 rw [tmpl_reader_parts__o0_g1_0]
 simp only [z,ha,cond_false,in_i h,at_i h,Bool.or_true,if_true,lett,b125,m36,flush_eq n w out ho,hc,wrap_s a (by omega)]
 have hd:decide ((d:Int) > 1) = decide (1 < d):=by by_cases h:1 < d <;> simp [h] <;> omega
 rw [hd]
 by_cases h1:1 < d ∧ s[a] = 125
 ·rw [if_pos h1,if_pos (by simp [h1.1,h1.2])]; rfl
 ·rw [if_neg h1,if_neg (by
   by_cases h2:1 < d
   ·have:s[a] ≠ 125:=fun e=>h1 ⟨h2,e⟩
    simp [h2,this]
   ·simp [h2])]
  by_cases h36:s[a] = 36
  ·rw [if_pos h36,if_neg (by simp [h36]),h36]
  ·rw [if_neg h36,if_pos (by simp [h36])]
theorem j3_dollar (R:Int → Rd → Option (List TP × Rd)) (n d:Nat) (out:List TP) (w s:BS) (a:Nat) (ha:a < s.length) (h36:s[a] = 36) (hs:s.length ≤ 100000) (hw:w.length ≤ 1000000) :
  tmpl_reader_parts__o0_j3 R n (d:Int) (((36:UInt8).toNat:Nat):Int) out w (S_tmpl_reader.mk s (a:Int) 0) = some (out,w ++ [36],S_tmpl_reader.mk s ((a + 1:Nat):Int) 0):=by
 unfold tmpl_reader_parts__o0_j3
 have hh:Lib.hasPrefix (List.drop a s) ([36]:List UInt8) = true:=by rw [hp1,drop_at ha,h36]; rfl
 have hc:decide ((List.length w + List.length ([(UInt8.ofNat (Int.toNat (((36:UInt8).toNat:Nat):Int)))]:List UInt8)) * (1 + 1) ≤ limit) = true:=decide_eq_true (by show (w.length + 1) * (1 + 1) ≤ 140737488355328; omega)
 simp only [le_i (Nat.le_of_lt ha),tn,hh,if_true]
 rw [if_pos (by decide),if_pos (by simpa using hc),wrap_s a (by omega)]
 rfl
theorem j3_brace (R:Int → Rd → Option (List TP × Rd)) (n d:Nat) (v:Int) (out:List TP) (w s:BS) (a:Nat) (ha:a < s.length) (h123:s[a] = 123) (hs:s.length ≤ 100000) (ho:out.length + w.length ≤ 1000000) :
  tmpl_reader_parts__o0_j3 R n (d:Int) v out w (S_tmpl_reader.mk s (a:Int) 0) = (tmpl_reader_reference__o0 R n (d:Int) (S_tmpl_reader.mk s ((a + 1:Nat):Int) 0)).bind fun r=>some (out ++ fl w ++ [r.1],[],r.2):=by
 unfold tmpl_reader_parts__o0_j3
 have h1:Lib.hasPrefix (List.drop a s) ([36]:List UInt8) = false:=by rw [hp1,drop_at ha,h123]; rfl
 have h2:Lib.hasPrefix (List.drop a s) ([123]:List UInt8) = true:=by rw [hp1,drop_at ha,h123]; rfl
 have hf:=fl_len w
 simp only [le_i (Nat.le_of_lt ha),tn,h1,h2,if_true,Bool.false_eq_true,if_false,flush_eq n w out (by omega),Option.bind_some,wrap_s a (by omega)]
 cases tmpl_reader_reference__o0 R n (d:Int) (S_tmpl_reader.mk s ((a + 1:Nat):Int) 0) with
 | none=>rfl
 | some r =>
  simp only [Option.bind_some]
  rw [if_pos (cap65 _ _ (by rw [List.length_append]; omega)),if_pos (in_last _ _)]
  have:=set_last (out ++ fl w) (S_tmpl_Part.mk [] [] 0 []) r.1
  rw [tn] at this
  rw [this]
theorem j3_plain (R:Int → Rd → Option (List TP × Rd)) (n d:Nat) (v:Int) (out:List TP) (w s:BS) (a:Nat) (ha:a ≤ s.length) (h36:(s.drop a).head? ≠ some 36) (h123:(s.drop a).head? ≠ some 123) (hs:s.length ≤ 100000) (ho:out.length + w.length ≤ 1000000) :
  tmpl_reader_parts__o0_j3 R n (d:Int) v out w (S_tmpl_reader.mk s (a:Int) 0) = (tmpl_reader_plain__o0 n (d:Int) (S_tmpl_reader.mk s (a:Int) 0)).bind fun r=>some (out ++ fl w ++ [r.1],[],r.2):=by
 unfold tmpl_reader_parts__o0_j3
 have h1:Lib.hasPrefix (List.drop a s) ([36]:List UInt8) = false:=by rw [hp1]; exact decide_eq_false h36
 have h2:Lib.hasPrefix (List.drop a s) ([123]:List UInt8) = false:=by rw [hp1]; exact decide_eq_false h123
 have hf:=fl_len w
 simp only [le_i ha,tn,h1,h2,if_true,Bool.false_eq_true,if_false,flush_eq n w out (by omega),Option.bind_some]
 cases tmpl_reader_plain__o0 n (d:Int) (S_tmpl_reader.mk s (a:Int) 0) with
 | none=>rfl
 | some r =>
  simp only [Option.bind_some]
  rw [if_pos (cap65 _ _ (by rw [List.length_append]; omega)),if_pos (in_last _ _)]
  have:=set_last (out ++ fl w) (S_tmpl_Part.mk [] [] 0 []) r.1
  rw [tn] at this
  rw [this]
theorem ge_eq (R:Int → Rd → Option (List TP × Rd)) (n k:Nat) (d:Int) (rd:Rd):tmpl_reader_parts__o0_g1_e R n k d rd = tmpl_reader_parts__o0_g1_0 R n k d [] [] rd:=by
 cases k with
 | zero=>rw [tmpl_reader_parts__o0_g1_e,tmpl_reader_parts__o0_g1_0]
 | succ k=>rw [tmpl_reader_parts__o0_g1_e,tmpl_reader_parts__o0_g1_0]; rfl
theorem parts_unf (n:Nat) (d:Int) (rd:Rd):tmpl_reader_parts__o0 (n + 1) d rd = (tmpl_reader_parts__o0_g1_0 (tmpl_reader_parts__o0 n) n n d [] [] rd):=by
 show tmpl_reader_parts__o0_b (tmpl_reader_parts__o0 n) n d rd = _
 unfold tmpl_reader_parts__o0_b
 rw [ge_eq]
 cases tmpl_reader_parts__o0_g1_0 (tmpl_reader_parts__o0 n) n n d [] [] rd <;> rfl
inductive Ps:Nat → BS → BS → List TP → BS → Prop
 | done (d:Nat) (r w:BS) (h:r = [] ∨ (1 < d ∧ r.head? = some 125)):Ps d r w (fl w) r
 | char (d:Nat) (c:UInt8) (r w:BS) (l:List TP) (r':BS) (h1:c ≠ 36) (h2:¬ (1 < d ∧ c = 125)) (h:Ps d r (w ++ [c]) l r'):Ps d (c :: r) w l r'
 | dollar (d:Nat) (r w:BS) (l:List TP) (r':BS) (h:Ps d r (w ++ [36]) l r'):Ps d (36 :: 36 :: r) w l r'
 | plain (d:Nat) (r w:BS) (l:List TP) (r':BS) (hd:d ≤ 8) (h0:r.head? ≠ some 36) (h1:r.head? ≠ some 123) (hv:varB (nmOf r) = true) (h:Ps d (afOf r) [] l r') :
   Ps d (36 :: r) w (fl w ++ S_tmpl_Part.mk (nmOf r) [] 1 [] :: l) r'
 | one (d:Nat) (r w r1:BS) (l:List TP) (r':BS) (hd:d ≤ 8) (hv:varB (nmOf r) = true) (he:afOf r = 125 :: r1) (h:Ps d r1 [] l r') :
   Ps d (36 :: 123 :: r) w (fl w ++ S_tmpl_Part.mk (nmOf r) [] 1 [] :: l) r'
 | sub (d:Nat) (r w:BS) (sb:List TP) (r1:BS) (l:List TP) (r':BS) (hd:d ≤ 8) (hv:varB (nmOf r) = true) (ho:(mk (afOf r)).1 ≠ 1) (hs:Ps (d + 1) ((afOf r).drop (mk (afOf r)).2) [] sb (125 :: r1)) (h:Ps d r1 [] l r') :
   Ps d (36 :: 123 :: r) w (fl w ++ S_tmpl_Part.mk (nmOf r) [] ((mk (afOf r)).1:Int) sb :: l) r'
theorem drop_head {s:BS} {a:Nat} {c:UInt8} (h:(s.drop a).head? = some c):∃ h':a < s.length,s[a] = c ∧ s.drop a = c :: s.drop (a + 1):=by
 by_cases h':a < s.length
 ·rw [drop_at h'] at h ⊢
  have:s[a] = c:=by rw [List.head?_cons] at h; exact Option.some.inj h
  exact ⟨h',this,by rw [this]⟩
 ·rw [List.drop_eq_nil_of_le (by omega)] at h; cases h
theorem mk_one {r:BS} (h:r.head? = some 125):(mk r).1 = 1:=by
 cases r with
 | nil=>cases h
 | cons c r=>simp only [List.head?_cons,Option.some.injEq] at h; subst h; rfl
theorem rd_eta (rd:Rd):rd = S_tmpl_reader.mk rd.f_s rd.f_at rd.f_e:=rfl
end Go.Proofs.YtibgdilkodjojaaGreatDoor.M
