import Derived.Test.YtaecmkldkljioaaQM36
import Derived.Test.YtaecmkldkljioaaQLoop
set_option linter.all false
namespace Go.Proofs.Ytaecmkldkljioaa.M
open Go Go.Proofs.Ytaecmkldkljioaa.RX Go.Proofs.Ytaecmkldkljioaa.PL
set_option maxRecDepth 100000
theorem wrap_idn (a:Nat) (h:a < 1000000000):IntKind.wrap .i64 (a:Int) = (a:Int):=by
 have:=PL.wrap_add a 0 (by omega)
 simpa using this
abbrev LC:=List S_api_Container
abbrev LT (a b:S_api_Container):Bool:=ref36_less a b
abbrev LE (a b:S_api_Container):Prop:=ref36_less b a = false
theorem bs_tri (a b:BS):a < b ∨ a = b ∨ b < a:=by
 rcases bs_total a b with h | h
 ·by_cases e:a = b
  ·exact .inr (.inl e)
  ·exact .inl (bs_lt_of_le_of_ne h e)
 ·by_cases e:a = b
  ·exact .inr (.inl e)
  ·exact .inr (.inr (bs_lt_of_le_of_ne h fun e'=>e e'.symm))
theorem lt_iff (a b:S_api_Container):ref36_less a b = true ↔ a.f_Spec.f_Service < b.f_Spec.f_Service ∨ (a.f_Spec.f_Service = b.f_Spec.f_Service ∧ (a.f_Spec.f_Number < b.f_Spec.f_Number ∨ (a.f_Spec.f_Number = b.f_Spec.f_Number ∧ a.f_Id < b.f_Id))):=by
 unfold ref36_less
 by_cases h:a.f_Spec.f_Service = b.f_Spec.f_Service
 ·have hn:=bs_irrefl b.f_Spec.f_Service
  rw [if_neg (by simp [h])]
  by_cases h2:a.f_Spec.f_Number = b.f_Spec.f_Number
  ·rw [if_neg (by simp [h2])]; simp [h,h2,hn]
  ·rw [if_pos (by simp [h2])]
   simp [h,h2,hn]
 ·rw [if_pos (by simp [h]),less_dec]
  simp [h]
theorem le_iff (a b:S_api_Container):LE a b ↔ a.f_Spec.f_Service < b.f_Spec.f_Service ∨ (a.f_Spec.f_Service = b.f_Spec.f_Service ∧ (a.f_Spec.f_Number < b.f_Spec.f_Number ∨ (a.f_Spec.f_Number = b.f_Spec.f_Number ∧ a.f_Id ≤ b.f_Id))):=by
 unfold LE
 rw [← Bool.not_eq_true,lt_iff]
 rcases bs_tri a.f_Spec.f_Service b.f_Spec.f_Service with h | h | h
 ·have h1:¬ b.f_Spec.f_Service < a.f_Spec.f_Service:=fun h'=>bs_irrefl _ (bs_trans h h')
  have h2:¬ b.f_Spec.f_Service = a.f_Spec.f_Service:=fun e=>bs_ne_of_lt h e.symm
  simp [h,h1,h2]
 ·rw [h]
  have h1:=bs_irrefl b.f_Spec.f_Service
  simp only [h1,false_or,true_and]
  omega
 ·have h1:¬ a.f_Spec.f_Service < b.f_Spec.f_Service:=fun h'=>bs_irrefl _ (bs_trans h h')
  have h2:¬ a.f_Spec.f_Service = b.f_Spec.f_Service:=fun e=>bs_ne_of_lt h e.symm
  simp [h,h1,h2]
theorem LE.trans {a b c:S_api_Container} (h:LE a b) (h':LE b c):LE a c:=by
 rw [le_iff] at *
 rcases h with h | ⟨e,h⟩
 ·rcases h' with h' | ⟨e',_⟩
  ·exact .inl (bs_trans h h')
  ·exact .inl (e' ▸ h)
 ·rcases h' with h' | ⟨e',h'⟩
  ·exact .inl (e ▸ h')
  ·exact .inr ⟨e.trans e',by omega⟩
theorem LE.of_lt {a b:S_api_Container} (h:LT a b = true):LE a b:=by
 rw [le_iff]
 rw [lt_iff] at h
 rcases h with h | ⟨e,h⟩
 ·exact .inl h
 ·exact .inr ⟨e,by omega⟩
theorem LE.refl (a:S_api_Container):LE a a:=by rw [le_iff]; exact .inr ⟨rfl,.inr ⟨rfl,Int.le_refl _⟩⟩
theorem LE.id_of {a b:S_api_Container} (h:LE a b) (h':LE b a):a.f_Id = b.f_Id:=by
 rw [le_iff] at *
 rcases h with h | ⟨e,h⟩
 ·rcases h' with h' | ⟨e',_⟩
  ·exact absurd (bs_trans h h') (bs_irrefl _)
  ·rw [e'] at h; exact absurd h (bs_irrefl _)
 ·rcases h' with h' | ⟨e',h'⟩
  ·rw [e] at h'; exact absurd h' (bs_irrefl _)
  ·omega
abbrev Srt (l:LC):Prop:=l.Pairwise LE
theorem cmpS (a b:BS):cmp_Compare_string a b = if a < b then -1 else if a = b then 0 else 1:=by
 unfold cmp_Compare_string cmp_isNaN_string
 rw [if_neg (by simp),if_neg (by simp),less_dec]
 by_cases h:a < b
 ·rw [if_pos (decide_eq_true h),if_pos h]
 ·rw [if_neg (by simpa using h),if_neg h]
  by_cases e:a = b
  ·rw [if_neg (by simp [e]),if_pos e]
  ·rw [if_pos (by simp [h,e]),if_neg e]
theorem cmpI (a b:Int):cmp_Compare_int a b = if a < b then -1 else if a = b then 0 else 1:=by
 unfold cmp_Compare_int cmp_isNaN_int
 rw [if_neg (by simp),if_neg (by simp)]
 by_cases h:a < b
 ·rw [if_pos (decide_eq_true h),if_pos h]
 ·rw [if_neg (by simpa using h),if_neg h]
  by_cases e:a = b
  ·rw [if_neg (by simp [e]),if_pos e]
  ·rw [if_pos (by simp; omega),if_neg e]
theorem cmpO (n:Nat) (hn:10 ≤ n) (x y z:Int):cmp_Or_int n [x,y,z] = some (if x ≠ 0 then x else if y ≠ 0 then y else z):=by
 obtain ⟨m,rfl⟩:∃ m,n = m + 4:=⟨n - 4,by omega⟩
 unfold cmp_Or_int
 rw [cmp_Or_int_l1]
 have w1:IntKind.wrap .i64 (0 + 1) = 1:=by decide
 have w2:IntKind.wrap .i64 (1 + 1) = 2:=by decide
 have w3:IntKind.wrap .i64 (2 + 1) = 3:=by decide
 by_cases h1:x = 0
 ·rw [if_pos (by rfl),if_pos (by rfl),if_neg (by simp [h1]),w1,cmp_Or_int_l1,if_pos (by rfl),if_pos (by rfl),if_neg (show ¬ x ≠ 0 by simp [h1])]
  by_cases h2:y = 0
  ·rw [if_neg (by simp [h2]),w2,cmp_Or_int_l1,if_pos (by rfl),if_pos (by rfl),if_neg (show ¬ y ≠ 0 by simp [h2])]
   by_cases h3:z = 0
   ·rw [if_neg (by simp [h3]),w3,cmp_Or_int_l1,if_neg (by simp),h3]; rfl
   ·rw [if_pos (by simpa using h3)]; rfl
  ·rw [if_pos (by simpa using h2),if_pos h2]; rfl
 ·rw [if_pos (by rfl),if_pos (by rfl),if_pos (by simpa using h1),if_pos h1]; rfl
theorem cmpV (n:Nat) (hn:10 ≤ n) (a b:S_api_Container):∃ c,view_sorted_1 n a b = some c ∧ decide (c < 0) = LT a b:=by
 unfold view_sorted_1
 rw [cmpO n hn,cmpS,cmpI,cmpI]
 refine ⟨_,rfl,?_⟩
 rw [Bool.eq_iff_iff,decide_eq_true_eq,lt_iff]
 rcases bs_tri a.f_Spec.f_Service b.f_Spec.f_Service with h | h | h
 ·rw [if_pos h]; simp [h]
 ·have h1:=bs_irrefl b.f_Spec.f_Service
  rw [h,if_neg h1,if_pos rfl,if_neg (show ¬ (0:Int) ≠ 0 by omega)]
  simp only [h1,false_or,true_and]
  repeat' split
  all_goals omega
 ·have h1:¬ a.f_Spec.f_Service < b.f_Spec.f_Service:=fun h'=>bs_irrefl _ (bs_trans h h')
  have h2:¬ a.f_Spec.f_Service = b.f_Spec.f_Service:=fun e=>bs_ne_of_lt h e.symm
  rw [if_neg h1,if_neg h2]; simp [h1,h2]
theorem get_mid {P Q:LC} {x:S_api_Container} {i:Nat} (h:i = P.length):((P ++ x :: Q)[Int.toNat (i:Int)]?.getD Z_api_Container) = x:=by
 subst h; simp
theorem in_mid {P Q:LC} {x:S_api_Container} {i:Nat} (h:i = P.length):decide (0 ≤ (i:Int) ∧ (i:Int) < (List.length (P ++ x :: Q):Int)) = true:=by
 subst h; exact in_i (by simp)
theorem set_mid {P Q:LC} {x y:S_api_Container} {i:Nat} (h:i = P.length):(P ++ x :: Q).set (Int.toNat (i:Int)) y = P ++ y :: Q:=by
 subst h; simp
theorem wsub {a b:Nat} (h:b ≤ a) (ha:a < 1000000000):IntKind.wrap .i64 ((a:Int) - (b:Int)) = ((a - b:Nat):Int):=by
 rw [show (a:Int) - (b:Int) = ((a - b:Nat):Int) by omega]; exact wrap_idn _ (by omega)
theorem wsub1 {a:Nat} (h:1 ≤ a) (ha:a < 1000000000):IntKind.wrap .i64 ((a:Int) - 1) = ((a - 1:Nat):Int):=by
 rw [show (a:Int) - 1 = ((a - 1:Nat):Int) by omega]; exact wrap_idn _ (by omega)
theorem wadd {a b:Nat} (h:a + b < 1000000000):IntKind.wrap .i64 ((a:Int) + (b:Int)) = ((a + b:Nat):Int):=PL.wrap_add a b (by omega)
theorem half_eq {a b:Nat} (h:a + b < 1000000000):IntKind.wrap .i64 ((Int.fdiv (IntKind.wrap .u64 ((IntKind.wrap .i64 ((a:Int) + (b:Int))))) (2 ^ (min (Int.toNat 1) (IntKind.bits .u64))))) = (((a + b) / 2:Nat):Int):=by
 rw [wadd h]
 have e1:IntKind.wrap .u64 ((a + b:Nat):Int) = ((a + b:Nat):Int):=by
  simp only [IntKind.wrap,IntKind.bits,IntKind.signed,Bool.false_and,Bool.false_eq_true,if_false,show ((2:Int) ^ 64) = 18446744073709551616 from rfl]
  omega
 rw [e1,show ((2:Int) ^ (min (Int.toNat 1) (IntKind.bits .u64))) = 2 from rfl,Int.fdiv_eq_ediv_of_nonneg _ (by omega)]
 rw [show ((a + b:Nat):Int) / 2 = (((a + b) / 2:Nat):Int) by omega]
 exact wrap_idn _ (by omega)
theorem bsearch {L:Nat → Int → Int → Option Int} (p:Nat → Bool) (lo0 hi0:Nat) (hh:hi0 < 400000000)
  (hs:∀ k lo hi,lo0 ≤ lo → lo < hi → hi ≤ hi0 → L (k + 1) (lo:Int) (hi:Int) = if p ((lo + hi) / 2) = true then L k (((lo + hi) / 2 + 1:Nat):Int) (hi:Int) else L k (lo:Int) (((lo + hi) / 2:Nat):Int))
  (he:∀ k lo,L (k + 1) (lo:Int) (lo:Int) = some (lo:Int))
  (hm:∀ i j,lo0 ≤ i → i ≤ j → j < hi0 → p j = true → p i = true):∀ (k lo hi:Nat),lo0 ≤ lo → lo ≤ hi → hi ≤ hi0 → hi - lo < k → (∀ i,lo0 ≤ i → i < lo → p i = true) → (∀ i,hi ≤ i → i < hi0 → p i = false) →
   ∃ r:Nat,L k (lo:Int) (hi:Int) = some (r:Int) ∧ lo0 ≤ r ∧ r ≤ hi0 ∧ (∀ i,lo0 ≤ i → i < r → p i = true) ∧ (∀ i,r ≤ i → i < hi0 → p i = false)
 | 0,_,_,_,_,_,h,_,_=>by omega
 | k + 1,lo,hi,h1,h2,h3,h4,h5,h6=>by
  by_cases h:lo < hi
  ·rw [hs k lo hi h1 h h3]
   by_cases hp:p ((lo + hi) / 2) = true
   ·rw [if_pos hp]
    exact bsearch p lo0 hi0 hh hs he hm k _ hi (by omega) (by omega) h3 (by omega) (fun i a b=>hm i _ a (by omega) (by omega) hp) h6
   ·rw [if_neg hp]
    refine bsearch p lo0 hi0 hh hs he hm k lo _ h1 (by omega) (by omega) (by omega) h5 (fun i a b=>?_)
    rw [← Bool.not_eq_true]
    exact fun hi'=>hp (hm _ i (by omega) a b hi')
  ·have:lo = hi:=by omega
   subst this
   exact ⟨lo,he k lo,h1,h3,h5,h6⟩
theorem ins_l2 (n:Nat) (hn:10 ≤ n) (v2 v8:Int) (P:LC):∀ (k:Nat) (A:LC) (x:S_api_Container) (Q:LC),A.length < k → (P ++ A ++ x :: Q).length < 100000 → Srt A →
  ∃ C,slices_insertionSortCmpFunc_api_Container__r0__view_sorted_1_l2 n (P.length:Int) v2 v8 k (P ++ A ++ x :: Q) ((P.length + A.length:Nat):Int) = some (P ++ C ++ Q) ∧ C.Perm (A ++ [x]) ∧ Srt C
 | 0,_,_,_,h,_,_=>by omega
 | k + 1,A,x,Q,h1,h2,h3=>by
  rcases List.eq_nil_or_concat A with rfl | ⟨A',y,rfl⟩
  ·refine ⟨[x],?_,by simp,by simp⟩
   have c0:decide ((((P.length + ([]:LC).length:Nat):Int)) > (P.length:Int)) = false:=decide_eq_false (by simp)
   rw [slices_insertionSortCmpFunc_api_Container__r0__view_sorted_1_l2,c0]
   simp
  ·rw [List.concat_eq_append] at h1 h2 h3 ⊢
   have e0:P ++ (A' ++ [y]) ++ x :: Q = (P ++ A') ++ y :: (x :: Q):=by simp
   have e1:P ++ (A' ++ [y]) ++ x :: Q = (P ++ A' ++ [y]) ++ x :: Q:=by simp
   have hl:(P ++ A').length < 100000:=by simp only [List.length_append,List.length_cons] at *; omega
   have hi:P.length + (A' ++ [y]).length = (P ++ A' ++ [y]).length:=by simp <;> omega
   have hj:P.length + (A' ++ [y]).length - 1 = (P ++ A').length:=by simp <;> omega
   have c0:decide (((P.length + (A' ++ [y]).length:Nat):Int) > (P.length:Int)) = true:=decide_eq_true (by simp; omega)
   have hw:IntKind.wrap .i64 (((P.length + (A' ++ [y]).length:Nat):Int) - 1) = (((P ++ A').length:Nat):Int):=by rw [wsub1 (by simp; omega) (by simp at *; omega),hj]
   obtain ⟨c,hc1,hc2⟩:=cmpV n hn x y
   have gx:((P ++ (A' ++ [y]) ++ x :: Q)[Int.toNat ((P.length + (A' ++ [y]).length:Nat):Int)]?.getD Z_api_Container) = x:=by rw [e1]; exact get_mid hi
   have gy:((P ++ (A' ++ [y]) ++ x :: Q)[Int.toNat (((P ++ A').length:Nat):Int)]?.getD Z_api_Container) = y:=by rw [e0]; exact get_mid rfl
   have ix:decide (0 ≤ ((P.length + (A' ++ [y]).length:Nat):Int) ∧ ((P.length + (A' ++ [y]).length:Nat):Int) < (List.length (P ++ (A' ++ [y]) ++ x :: Q):Int)) = true:=by rw [e1]; exact in_mid hi
   have iy:decide (0 ≤ (((P ++ A').length:Nat):Int) ∧ (((P ++ A').length:Nat):Int) < (List.length (P ++ (A' ++ [y]) ++ x :: Q):Int)) = true:=by rw [e0]; exact in_mid rfl
   rw [slices_insertionSortCmpFunc_api_Container__r0__view_sorted_1_l2,c0,hw,ix,iy,gx,gy]
   simp only [beq_self_eq_true,Bool.not_true,Bool.false_or,if_true,hc1,Option.bind_some,cond_true,hc2,lett]
   have hs1:Srt A':=h3.sublist (List.sublist_append_left _ _)
   have hAy:∀ a ∈ A',LE a y:=fun a ha=>(List.pairwise_append.1 h3).2.2 a ha y (by simp)
   by_cases hxy:LT x y = true
   ·have s1:(P ++ (A' ++ [y]) ++ x :: Q).set (Int.toNat ((P.length + (A' ++ [y]).length:Nat):Int)) y = (P ++ A') ++ y :: (y :: Q):=by
     rw [e1,set_mid hi]; simp
    have s2:((P ++ A') ++ y :: (y :: Q)).set (Int.toNat (((P ++ A').length:Nat):Int)) x = P ++ A' ++ x :: (y :: Q):=set_mid rfl
    rw [if_pos hxy,s1,s2,if_pos (in_mid rfl)]
    obtain ⟨C,f1,f2,f3⟩:=ins_l2 n hn v2 v8 P k A' x (y :: Q) (by simp at h1; omega) (by simp at *; omega) hs1
    rw [List.length_append] at *
    refine ⟨C ++ [y],?_,?_,?_⟩
    ·rw [f1]; simp
    ·have:=f2.append_right [y]
     refine this.trans ?_
     rw [List.append_assoc,List.append_assoc]
     exact List.Perm.append_left _ (List.Perm.swap _ _ _)
    ·refine List.pairwise_append.2 ⟨f3,by simp,fun a ha b hb=>?_⟩
     rw [List.mem_singleton.1 hb]
     rcases List.mem_append.1 (f2.mem_iff.1 ha) with ha | ha
     ·exact hAy a ha
     ·rw [List.mem_singleton.1 ha]; exact LE.of_lt hxy
   ·rw [if_neg hxy]
    refine ⟨A' ++ [y] ++ [x],by simp,.refl _,?_⟩
    refine List.pairwise_append.2 ⟨h3,by simp,fun a ha b hb=>?_⟩
    rw [List.mem_singleton.1 hb]
    have hyx:LE y x:=by simpa using hxy
    rcases List.mem_append.1 ha with ha | ha
    ·exact (hAy a ha).trans hyx
    ·rw [List.mem_singleton.1 ha]; exact hyx
theorem ins_l1 (n:Nat) (hn:100000 ≤ n) (P Q:LC):∀ (k:Nat) (A R:LC),R.length < k → (P ++ A ++ R ++ Q).length < 100000 → Srt A →
  ∃ C,slices_insertionSortCmpFunc_api_Container__r0__view_sorted_1_l1 n (P.length:Int) ((P.length + A.length + R.length:Nat):Int) k (P ++ A ++ R ++ Q) ((P.length + A.length:Nat):Int) = some (P ++ C ++ Q) ∧ C.Perm (A ++ R) ∧ Srt C
 | 0,_,_,h,_,_=>by omega
 | k + 1,A,R,h1,h2,h3=>by
  cases R with
  | nil =>
   refine ⟨A,?_,by simp,h3⟩
   rw [slices_insertionSortCmpFunc_api_Container__r0__view_sorted_1_l1,if_neg (by simp)]; simp
  | cons x R =>
   rw [slices_insertionSortCmpFunc_api_Container__r0__view_sorted_1_l1,if_pos (decide_eq_true (by simp; omega))]
   obtain ⟨C,f1,f2,f3⟩:=ins_l2 n (by omega) ((P.length + A.length + (x :: R).length:Nat):Int) ((P.length + A.length:Nat):Int) P n A x (R ++ Q) (by simp at h2; omega) (by simp at *; omega) h3
   have e:P ++ A ++ x :: R ++ Q = P ++ A ++ x :: (R ++ Q):=by simp
   rw [e,f1,Option.bind_some,wrap_s _ (by simp at h2; omega)]
   have hC:C.length = A.length + 1:=by rw [f2.length_eq]; simp
   obtain ⟨D,g1,g2,g3⟩:=ins_l1 n hn P Q k C R (by simp at h1; omega) (by simp at *; omega) f3
   refine ⟨D,?_,?_,g3⟩
   ·rw [hC] at g1
    have e2:P.length + A.length + (x :: R).length = P.length + (A.length + 1) + R.length:=by simp; omega
    rw [e2,show P.length + A.length + 1 = P.length + (A.length + 1) by omega,← List.append_assoc (P ++ C)]
    exact g1
   ·refine g2.trans ?_
    have:=f2.append_right R
    refine this.trans ?_
    simp
theorem ins_ok (n:Nat) (hn:100000 ≤ n) (P R Q:LC) (h2:(P ++ R ++ Q).length < 100000):∃ C,slices_insertionSortCmpFunc_api_Container__r0__view_sorted_1 n (P.length:Int) ((P.length + R.length:Nat):Int) (P ++ R ++ Q) = some (P ++ C ++ Q) ∧ C.Perm R ∧ Srt C:=by
 unfold slices_insertionSortCmpFunc_api_Container__r0__view_sorted_1
 cases R with
 | nil =>
  refine ⟨[],?_,.refl _,.nil⟩
  obtain ⟨m,rfl⟩:∃ m,n = m + 1:=⟨n - 1,by omega⟩
  rw [wrap_s _ (by simp at h2; omega),slices_insertionSortCmpFunc_api_Container__r0__view_sorted_1_l1,if_neg (by simp; omega)]; simp
 | cons x R =>
  obtain ⟨C,f1,f2,f3⟩:=ins_l1 n hn P Q n [x] R (by simp at h2; omega) (by simpa using h2) (by simp)
  refine ⟨C,?_,by simpa using f2,f3⟩
  rw [wrap_s _ (by simp at h2; omega)]
  have e:P ++ x :: R ++ Q = P ++ [x] ++ R ++ Q:=by simp
  have e2:P.length + (x :: R).length = P.length + [x].length + R.length:=by simp; omega
  rw [e,e2]
  have f1:slices_insertionSortCmpFunc_api_Container__r0__view_sorted_1_l1 n (P.length:Int) _ n _ ((P.length + 1:Nat):Int) = _:=f1
  rw [f1]; rfl
theorem swap_l1 (n:Nat) (v1 v2 cnt:Nat) (hb:v1 + v2 + cnt < 1000000):∀ (k:Nat) (P X M Y Q:LC) (i:Nat),X.length = Y.length → i + X.length = cnt → X.length < k → P.length = v1 + i → P.length + X.length + M.length = v2 + i →
  slices_swapRangeCmpFunc_api_Container__r0__view_sorted_1_l1 n (v1:Int) (v2:Int) (cnt:Int) k (P ++ X ++ M ++ Y ++ Q) (i:Int) = some (P ++ Y ++ (M.drop (M.length)) ++ M ++ X ++ Q)
 | 0,_,_,_,_,_,_,_,_,h,_,_=>by omega
 | k + 1,P,X,M,Y,Q,i,hxy,hi,hk,hP,hv=>by
  cases X with
  | nil =>
   have:Y = []:=List.length_eq_zero_iff.1 hxy.symm
   subst this
   have:i = cnt:=by simpa using hi
   subst this
   rw [slices_swapRangeCmpFunc_api_Container__r0__view_sorted_1_l1,nlt_n]; simp
  | cons x X =>
   cases Y with
   | nil=>simp at hxy
   | cons y Y =>
    have e1:P ++ x :: X ++ M ++ y :: Y ++ Q = P ++ x :: (X ++ M ++ y :: Y ++ Q):=by simp
    have e2:P ++ x :: X ++ M ++ y :: Y ++ Q = (P ++ x :: X ++ M) ++ y :: (Y ++ Q):=by simp
    have h1:v1 + i = P.length:=hP.symm
    have h2:v2 + i = (P ++ x :: X ++ M).length:=by rw [← hv]; simp; omega
    rw [slices_swapRangeCmpFunc_api_Container__r0__view_sorted_1_l1,if_pos (decide_eq_true (by simp at hi; omega)),wadd (by simp at hi; omega),wadd (by simp at hi; omega)]
    have gx:((P ++ x :: X ++ M ++ y :: Y ++ Q)[Int.toNat ((v1 + i:Nat):Int)]?.getD Z_api_Container) = x:=by rw [e1]; exact get_mid h1
    have gy:((P ++ x :: X ++ M ++ y :: Y ++ Q)[Int.toNat ((v2 + i:Nat):Int)]?.getD Z_api_Container) = y:=by rw [e2]; exact get_mid h2
    have ix:decide (0 ≤ ((v1 + i:Nat):Int) ∧ ((v1 + i:Nat):Int) < (List.length (P ++ x :: X ++ M ++ y :: Y ++ Q):Int)) = true:=by rw [e1]; exact in_mid h1
    have iy:decide (0 ≤ ((v2 + i:Nat):Int) ∧ ((v2 + i:Nat):Int) < (List.length (P ++ x :: X ++ M ++ y :: Y ++ Q):Int)) = true:=by rw [e2]; exact in_mid h2
    have s1:(P ++ x :: X ++ M ++ y :: Y ++ Q).set (Int.toNat ((v1 + i:Nat):Int)) y = (P ++ y :: X ++ M) ++ y :: (Y ++ Q):=by rw [e1,set_mid h1]; simp
    have h2':v2 + i = (P ++ y :: X ++ M).length:=by rw [h2]; simp
    have s2:((P ++ y :: X ++ M) ++ y :: (Y ++ Q)).set (Int.toNat ((v2 + i:Nat):Int)) x = (P ++ y :: X ++ M) ++ x :: (Y ++ Q):=set_mid h2'
    rw [gx,gy,ix,iy,s1,if_pos rfl,if_pos rfl,if_pos (in_mid h2'),s2]
    simp only [lett]
    rw [wrap_s i (by simp at hi; omega)]
    have ih:=swap_l1 n v1 v2 cnt hb k (P ++ [y]) X (M ++ [x]) Y Q (i + 1) (by simpa using hxy) (by simp at hi; omega) (by simp at hk; omega) (by simp; omega) (by simp at *; omega)
    have e3:(P ++ y :: X ++ M) ++ x :: (Y ++ Q) = P ++ [y] ++ X ++ (M ++ [x]) ++ Y ++ Q:=by simp
    rw [e3,ih]; simp
theorem swap_ok (n:Nat) (P X M Y Q:LC) (hxy:X.length = Y.length) (hl:(P ++ X ++ M ++ Y ++ Q).length < 100000) (hn:100000 ≤ n) (v1 v2 c:Int) (h1:v1 = (P.length:Int)) (h2:v2 = ((P.length + X.length + M.length:Nat):Int)) (h3:c = (X.length:Int)) :
  slices_swapRangeCmpFunc_api_Container__r0__view_sorted_1 n v1 v2 c (P ++ X ++ M ++ Y ++ Q) = some (P ++ Y ++ M ++ X ++ Q):=by
 subst h1; subst h2; subst h3
 unfold slices_swapRangeCmpFunc_api_Container__r0__view_sorted_1
 have hl':P.length + X.length + M.length + Y.length + Q.length < 100000:=by simpa [Nat.add_assoc] using hl
 have:=swap_l1 n P.length (P.length + X.length + M.length) X.length (by omega) n P X M Y Q 0 hxy (by omega) (by omega) (by omega) (by omega)
 have this:slices_swapRangeCmpFunc_api_Container__r0__view_sorted_1_l1 n (P.length:Int) _ (X.length:Int) n (P ++ X ++ M ++ Y ++ Q) 0 = _:=this
 rw [this]; simp
theorem rot_ok (n:Nat) (hn:100000 ≤ n):∀ (k:Nat) (P X Y Q:LC),X.length + Y.length < k → 0 < X.length → 0 < Y.length → (P ++ X ++ Y ++ Q).length < 100000 →
  ((slices_rotateCmpFunc_api_Container__r0__view_sorted_1_l1 n ((P.length + X.length:Nat):Int) k (P ++ X ++ Y ++ Q) (X.length:Int) (Y.length:Int)).bind fun o1 =>
   (slices_swapRangeCmpFunc_api_Container__r0__view_sorted_1 n (IntKind.wrap .i64 (((P.length + X.length:Nat):Int) - o1.2)) ((P.length + X.length:Nat):Int) o1.2 o1.1).bind fun r2=>some r2) = some (P ++ Y ++ X ++ Q)
 | 0,_,_,_,_,h,_,_,_=>by omega
 | k + 1,P,X,Y,Q,h1,hx,hy,hl=>by
  have hl':P.length + X.length + Y.length + Q.length < 100000:=by simpa [Nat.add_assoc] using hl
  rw [slices_rotateCmpFunc_api_Container__r0__view_sorted_1_l1]
  by_cases hij:X.length = Y.length
  ·rw [if_neg (by simp; omega),Option.bind_some]
   dsimp only
   have:=swap_ok n P X [] Y Q hij (by simpa using hl) hn (IntKind.wrap .i64 (((P.length + X.length:Nat):Int) - (X.length:Int))) ((P.length + X.length:Nat):Int) (X.length:Int) (by rw [wsub (by omega) (by omega)]; omega) (by simp) rfl
   rw [show P ++ X ++ Y ++ Q = P ++ X ++ [] ++ Y ++ Q by simp,this]; simp
  ·rw [if_pos (by simp; omega)]
   by_cases hgt:X.length > Y.length
   ·obtain ⟨X1,X2,rfl,hX1⟩:∃ X1 X2,X = X1 ++ X2 ∧ X1.length = Y.length:=⟨X.take Y.length,X.drop Y.length,by simp,by simp; omega⟩
    simp only [List.length_append] at hl' hgt h1 hx hij
    rw [if_pos (decide_eq_true (by simp only [List.length_append]; omega))]
    have:=swap_ok n P X1 X2 Y Q hX1 (by simpa using hl) hn (IntKind.wrap .i64 (((P.length + (X1 ++ X2).length:Nat):Int) - ((X1 ++ X2).length:Int))) ((P.length + (X1 ++ X2).length:Nat):Int) (Y.length:Int) (by rw [wsub (by omega) (by simp; omega)]; omega) (by simp; omega) (by omega)
    rw [show P ++ (X1 ++ X2) ++ Y ++ Q = P ++ X1 ++ X2 ++ Y ++ Q by simp,this,Option.bind_some,wsub (by simp; omega) (by simp; omega)]
    have ih:=rot_ok n hn k (P ++ Y) X2 X1 Q (by omega) (by omega) (by omega) (by simp; omega)
    have a1:(P ++ Y).length + X2.length = P.length + (X1 ++ X2).length:=by simp; omega
    have a2:X2.length = (X1 ++ X2).length - Y.length:=by simp; omega
    rw [a1] at ih
    rw [← a2,← hX1,ih]; simp
   ·rw [if_neg (by simp; omega)]
    obtain ⟨Y1,Y2,rfl,hY2⟩:∃ Y1 Y2,Y = Y1 ++ Y2 ∧ Y2.length = X.length:=⟨Y.take (Y.length - X.length),Y.drop (Y.length - X.length),by simp,by simp; omega⟩
    simp only [List.length_append] at hl' hgt h1 hy hij
    have:=swap_ok n P X Y1 Y2 Q hY2.symm (by simpa using hl) hn (IntKind.wrap .i64 (((P.length + X.length:Nat):Int) - (X.length:Int))) (IntKind.wrap .i64 ((IntKind.wrap .i64 (((P.length + X.length:Nat):Int) + ((Y1 ++ Y2).length:Int))) - (X.length:Int))) (X.length:Int) (by rw [wsub (by omega) (by omega)]; omega) (by rw [wadd (by simp; omega),wsub (by omega) (by simp; omega)]; simp; omega) rfl
    rw [show P ++ X ++ (Y1 ++ Y2) ++ Q = P ++ X ++ Y1 ++ Y2 ++ Q by simp,this,Option.bind_some,wsub (by simp; omega) (by simp; omega)]
    have ih:=rot_ok n hn k P Y2 Y1 (X ++ Q) (by omega) (by omega) (by omega) (by simp; omega)
    have a2:Y1.length = (Y1 ++ Y2).length - X.length:=by simp; omega
    rw [hY2] at ih
    rw [← a2,show P ++ Y2 ++ Y1 ++ X ++ Q = P ++ Y2 ++ Y1 ++ (X ++ Q) by simp,ih]; simp
theorem rotate_ok (n:Nat) (hn:100000 ≤ n) (P X Y Q:LC) (hx:0 < X.length) (hy:0 < Y.length) (hl:(P ++ X ++ Y ++ Q).length < 100000) (a1 a2 a3:Int) (h1:a1 = (P.length:Int)) (h2:a2 = ((P.length + X.length:Nat):Int)) (h3:a3 = ((P.length + X.length + Y.length:Nat):Int)) :
  slices_rotateCmpFunc_api_Container__r0__view_sorted_1 n a1 a2 a3 (P ++ X ++ Y ++ Q) = some (P ++ Y ++ X ++ Q):=by
 subst h1; subst h2; subst h3
 have hl':P.length + X.length + Y.length + Q.length < 100000:=by simpa [Nat.add_assoc] using hl
 unfold slices_rotateCmpFunc_api_Container__r0__view_sorted_1
 rw [wsub (by omega) (by omega),wsub (by omega) (by omega),show P.length + X.length - P.length = X.length by omega,show P.length + X.length + Y.length - (P.length + X.length) = Y.length by omega]
 exact rot_ok n hn n P X Y Q (by omega) hx hy hl
theorem srt_app {A B:LC} (ha:Srt A) (hb:Srt B) (h:∀ a ∈ A,∀ b ∈ B,LE a b):Srt (A ++ B):=List.pairwise_append.2 ⟨ha,hb,h⟩
theorem srt_get {A:LC} (h:Srt A) {i j:Nat} (hij:i ≤ j) (hj:j < A.length):LE (A[i]'(by omega)) A[j]:=by
 by_cases e:i = j
 ·subst e; exact LE.refl _
 ·exact List.pairwise_iff_getElem.1 h i j (by omega) hj (by omega)
theorem get_seg (P A Q:LC) (i:Nat) (hi:i < A.length):((P ++ A ++ Q)[Int.toNat ((P.length + i:Nat):Int)]?.getD Z_api_Container) = A[i]:=by
 rw [at_i (by simp; omega),List.getElem_append_left (by simp; omega),List.getElem_append_right (by omega)]
 congr 1; omega
theorem one_left (R:Int → Int → Int → LC → Option LC) (n:Nat) (hn:100000 ≤ n) (P:LC) (x:S_api_Container) (B Q:LC) (hs:Srt B) (hl:P.length + B.length + Q.length < 90000) :
  ∃ C,((slices_symMergeCmpFunc_api_Container__r0__view_sorted_1_l1 R n (P ++ x :: B ++ Q) (P.length:Int) n ((P.length + 1:Nat):Int) ((P.length + 1 + B.length:Nat):Int)).bind fun o1=>(slices_symMergeCmpFunc_api_Container__r0__view_sorted_1_l2 R n o1 n (P ++ x :: B ++ Q) (P.length:Int)).bind fun o2=>some o2) = some (P ++ C ++ Q) ∧ C.Perm (x :: B) ∧ Srt C:=by
 have e1:P ++ x :: B ++ Q = (P ++ [x]) ++ B ++ Q:=by simp
 have hP1:(P ++ [x]).length = P.length + 1:=by simp
 obtain ⟨r,hr,hr0,hr1,hr2,hr3⟩:=bsearch (L:=slices_symMergeCmpFunc_api_Container__r0__view_sorted_1_l1 R n (P ++ x :: B ++ Q) (P.length:Int)) (fun h=>LT (B[h - (P.length + 1)]?.getD Z_api_Container) x) (P.length + 1) (P.length + 1 + B.length) (by omega)
  (fun k lo hi h1 h2 h3=>by
   have hi':(lo + hi) / 2 - (P.length + 1) < B.length:=by omega
   have hh:(lo + hi) / 2 = (P ++ [x]).length + ((lo + hi) / 2 - (P.length + 1)):=by rw [hP1]; omega
   have g1:((P ++ x :: B ++ Q)[Int.toNat (((lo + hi) / 2:Nat):Int)]?.getD Z_api_Container) = B[(lo + hi) / 2 - (P.length + 1)]:=by
    rw [e1]; conv=>lhs; rw [hh]
    exact get_seg (P ++ [x]) B Q _ hi'
   have g2:decide (0 ≤ (((lo + hi) / 2:Nat):Int) ∧ (((lo + hi) / 2:Nat):Int) < (List.length (P ++ x :: B ++ Q):Int)) = true:=in_i (by simp; omega)
   have g3:((P ++ x :: B ++ Q)[Int.toNat (P.length:Int)]?.getD Z_api_Container) = x:=by rw [show P ++ x :: B ++ Q = P ++ x :: (B ++ Q) by simp]; exact get_mid rfl
   have g4:decide (0 ≤ (P.length:Int) ∧ (P.length:Int) < (List.length (P ++ x :: B ++ Q):Int)) = true:=in_i (by simp <;> omega)
   obtain ⟨c,hc1,hc2⟩:=cmpV n (by omega) (B[(lo + hi) / 2 - (P.length + 1)]) x
   rw [slices_symMergeCmpFunc_api_Container__r0__view_sorted_1_l1,if_pos (decide_eq_true (by omega)),if_pos (by decide)]
   simp only [lett]
   rw [half_eq (by omega),if_pos g2,if_pos g4,g1,g3,hc1,Option.bind_some,hc2,wrap_s _ (by omega),List.getElem?_eq_getElem hi']
   rfl)
  (fun k lo=>by rw [slices_symMergeCmpFunc_api_Container__r0__view_sorted_1_l1,if_neg (by simp)])
  (fun i j h1 h2 h3 h4=>by
   have hj:j - (P.length + 1) < B.length:=by omega
   have hi:i - (P.length + 1) < B.length:=by omega
   rw [List.getElem?_eq_getElem hj] at h4
   rw [List.getElem?_eq_getElem hi]
   have:=srt_get hs (show i - (P.length + 1) ≤ j - (P.length + 1) by omega) hj
   show LT _ x = true
   cases hx:LT (B[i - (P.length + 1)]) x with
   | true=>exact hx
   | false =>
    have h5:LE x (B[i - (P.length + 1)]):=hx
    have h6:=h5.trans this
    have h4:LT (B[j - (P.length + 1)]) x = true:=h4
    rw [show LT (B[j - (P.length + 1)]) x = false from h6] at h4; cases h4)
  n (P.length + 1) (P.length + 1 + B.length) (Nat.le_refl _) (by omega) (Nat.le_refl _) (by omega) (fun i a b=>by omega) (fun i a b=>by omega)
 obtain ⟨j,rfl⟩:∃ j,r = P.length + 1 + j:=⟨r - (P.length + 1),by omega⟩
 have hjl:j ≤ B.length:=by omega
 have move:∀ (k:Nat) (P1 B1 Q1:LC),B1.length < k → P1.length + B1.length + Q1.length < 100000 → slices_symMergeCmpFunc_api_Container__r0__view_sorted_1_l2 R n ((P1.length + B1.length + 1:Nat):Int) k (P1 ++ x :: (B1 ++ Q1)) (P1.length:Int) = some (P1 ++ B1 ++ x :: Q1):=by
  intro k
  induction k with
  | zero=>intro _ _ _ h; omega
  | succ k ih =>
   intro P1 B1 Q1 h1 h2
   rw [slices_symMergeCmpFunc_api_Container__r0__view_sorted_1_l2,wsub1 (by omega) (by omega)]
   cases B1 with
   | nil=>rw [if_neg (by simp)]; simp
   | cons b B1 =>
    simp only [List.length_cons] at h1 h2 ⊢
    have w:IntKind.wrap .i64 ((P1.length:Int) + 1) = ((P1.length + 1:Nat):Int):=wrap_s _ (by omega)
    have ea:P1 ++ x :: (b :: B1 ++ Q1) = (P1 ++ [x]) ++ b :: (B1 ++ Q1):=by simp
    have hp:P1.length + 1 = (P1 ++ [x]).length:=by simp
    have g1:((P1 ++ x :: (b :: B1 ++ Q1))[Int.toNat ((P1.length + 1:Nat):Int)]?.getD Z_api_Container) = b:=by rw [ea]; exact get_mid hp
    have i1:decide (0 ≤ ((P1.length + 1:Nat):Int) ∧ ((P1.length + 1:Nat):Int) < (List.length (P1 ++ x :: (b :: B1 ++ Q1)):Int)) = true:=by rw [ea]; exact in_mid hp
    have g2:((P1 ++ x :: (b :: B1 ++ Q1))[Int.toNat (P1.length:Int)]?.getD Z_api_Container) = x:=get_mid rfl
    have s1:(P1 ++ x :: (b :: B1 ++ Q1)).set (Int.toNat (P1.length:Int)) b = P1 ++ b :: (b :: B1 ++ Q1):=set_mid rfl
    have eb:P1 ++ b :: (b :: B1 ++ Q1) = (P1 ++ [b]) ++ b :: (B1 ++ Q1):=by simp
    have hp2:P1.length + 1 = (P1 ++ [b]).length:=by simp
    have s2:(P1 ++ b :: (b :: B1 ++ Q1)).set (Int.toNat ((P1.length + 1:Nat):Int)) x = (P1 ++ [b]) ++ x :: (B1 ++ Q1):=by rw [eb]; exact set_mid hp2
    have i3:decide (0 ≤ ((P1.length + 1:Nat):Int) ∧ ((P1.length + 1:Nat):Int) < (List.length (P1 ++ b :: (b :: B1 ++ Q1)):Int)) = true:=by rw [eb]; exact in_mid hp2
    rw [if_pos (decide_eq_true (by omega)),w,if_pos i1,if_pos (in_mid rfl),g1,g2,s1,if_pos i3,s2]
    simp only [lett]
    have:=ih (P1 ++ [b]) B1 Q1 (by omega) (by simp; omega)
    rw [hp2]
    rw [show (P1 ++ [b]).length + B1.length + 1 = P1.length + (B1.length + 1) + 1 by simp; omega] at this
    rw [this]; simp
 refine ⟨B.take j ++ x :: B.drop j,?_,?_,?_⟩
 ·rw [hr,Option.bind_some]
  have:=move n P (B.take j) (B.drop j ++ Q) (by simp; omega) (by simp; omega)
  rw [show P.length + (B.take j).length + 1 = P.length + 1 + j by simp; omega,show P ++ x :: (B.take j ++ (B.drop j ++ Q)) = P ++ x :: B ++ Q by rw [← List.append_assoc,List.take_append_drop]; simp] at this
  rw [this]; simp
 ·refine List.perm_middle.trans ?_
  rw [List.take_append_drop]
 ·have ht:∀ b ∈ B.take j,LE b x:=fun b hb=>by
   obtain ⟨i,hi,rfl⟩:=List.mem_iff_getElem.1 hb
   have hi':i < j:=by simp at hi; omega
   have:=hr2 (P.length + 1 + i) (by omega) (by omega)
   rw [show P.length + 1 + i - (P.length + 1) = i by omega,List.getElem?_eq_getElem (by omega)] at this
   rw [List.getElem_take]
   exact LE.of_lt this
  have hd:∀ b ∈ B.drop j,LE x b:=fun b hb=>by
   obtain ⟨i,hi,rfl⟩:=List.mem_iff_getElem.1 hb
   have hi':j + i < B.length:=by simp at hi; omega
   have:=hr3 (P.length + 1 + (j + i)) (by omega) (by omega)
   rw [show P.length + 1 + (j + i) - (P.length + 1) = j + i by omega,List.getElem?_eq_getElem hi'] at this
   rw [List.getElem_drop]
   exact this
  refine srt_app (hs.sublist (List.take_sublist _ _)) (List.pairwise_cons.2 ⟨hd,hs.sublist (List.drop_sublist _ _)⟩) fun a ha b hb=>?_
  rcases List.mem_cons.1 hb with rfl | hb
  ·exact ht a ha
  ·exact (ht a ha).trans (hd b hb)
theorem one_right (R:Int → Int → Int → LC → Option LC) (n:Nat) (hn:100000 ≤ n) (P:LC) (x:S_api_Container) (A Q:LC) (hs:Srt A) (hl:P.length + A.length + Q.length < 90000) :
  ∃ C,((slices_symMergeCmpFunc_api_Container__r0__view_sorted_1_l3 R n (P ++ A ++ x :: Q) ((P.length + A.length:Nat):Int) n (P.length:Int) ((P.length + A.length:Nat):Int)).bind fun o3=>(slices_symMergeCmpFunc_api_Container__r0__view_sorted_1_l4 R n o3 n (P ++ A ++ x :: Q) ((P.length + A.length:Nat):Int)).bind fun o4=>some o4) = some (P ++ C ++ Q) ∧ C.Perm (A ++ [x]) ∧ Srt C:=by
 have hPA:P.length + A.length = (P ++ A).length:=by simp
 obtain ⟨r,hr,hr0,hr1,hr2,hr3⟩:=bsearch (L:=slices_symMergeCmpFunc_api_Container__r0__view_sorted_1_l3 R n (P ++ A ++ x :: Q) ((P.length + A.length:Nat):Int)) (fun h=>!LT x (A[h - P.length]?.getD Z_api_Container)) P.length (P.length + A.length) (by omega)
  (fun k lo hi h1 h2 h3=>by
   have hi':(lo + hi) / 2 - P.length < A.length:=by omega
   have hh:(lo + hi) / 2 = P.length + ((lo + hi) / 2 - P.length):=by omega
   have g1:((P ++ A ++ x :: Q)[Int.toNat (((lo + hi) / 2:Nat):Int)]?.getD Z_api_Container) = A[(lo + hi) / 2 - P.length]:=by
    conv=>lhs; rw [hh]
    exact get_seg P A (x :: Q) _ hi'
   have g2:decide (0 ≤ (((lo + hi) / 2:Nat):Int) ∧ (((lo + hi) / 2:Nat):Int) < (List.length (P ++ A ++ x :: Q):Int)) = true:=in_i (by simp; omega)
   have g3:((P ++ A ++ x :: Q)[Int.toNat ((P.length + A.length:Nat):Int)]?.getD Z_api_Container) = x:=get_mid hPA
   have g4:decide (0 ≤ ((P.length + A.length:Nat):Int) ∧ ((P.length + A.length:Nat):Int) < (List.length (P ++ A ++ x :: Q):Int)) = true:=in_mid hPA
   obtain ⟨c,hc1,hc2⟩:=cmpV n (by omega) x (A[(lo + hi) / 2 - P.length])
   rw [slices_symMergeCmpFunc_api_Container__r0__view_sorted_1_l3,if_pos (decide_eq_true (by omega)),if_pos (by decide)]
   simp only [lett]
   rw [half_eq (by omega),if_pos g4,if_pos g2,g1,g3,hc1,Option.bind_some,hc2,wrap_s _ (by omega),List.getElem?_eq_getElem hi']
   rfl)
  (fun k lo=>by rw [slices_symMergeCmpFunc_api_Container__r0__view_sorted_1_l3,if_neg (by simp)])
  (fun i j h1 h2 h3 h4=>by
   have hj:j - P.length < A.length:=by omega
   have hi:i - P.length < A.length:=by omega
   rw [List.getElem?_eq_getElem hj] at h4
   rw [List.getElem?_eq_getElem hi]
   have h5:LE (A[j - P.length]) x:=by simpa using h4
   have h6:=(srt_get hs (show i - P.length ≤ j - P.length by omega) hj).trans h5
   show (!LT x (A[i - P.length])) = true
   rw [show LT x (A[i - P.length]) = false from h6]; rfl)
  n P.length (P.length + A.length) (Nat.le_refl _) (by omega) (Nat.le_refl _) (by omega) (fun i a b=>by omega) (fun i a b=>by omega)
 obtain ⟨j,rfl⟩:∃ j,r = P.length + j:=⟨r - P.length,by omega⟩
 have hjl:j ≤ A.length:=by omega
 have move:∀ (k:Nat) (P1 A1 Q1:LC),A1.length < k → P1.length + A1.length + Q1.length < 100000 → slices_symMergeCmpFunc_api_Container__r0__view_sorted_1_l4 R n (P1.length:Int) k (P1 ++ A1 ++ x :: Q1) ((P1.length + A1.length:Nat):Int) = some (P1 ++ x :: A1 ++ Q1):=by
  intro k
  induction k with
  | zero=>intro _ _ _ h; omega
  | succ k ih =>
   intro P1 A1 Q1 h1 h2
   rw [slices_symMergeCmpFunc_api_Container__r0__view_sorted_1_l4]
   rcases List.eq_nil_or_concat A1 with rfl | ⟨A1,y,rfl⟩
   ·rw [if_neg (by simp)]; simp
   ·rw [List.concat_eq_append] at h1 h2 ⊢
    simp only [List.length_append,List.length_singleton] at h1 h2
    rw [show P1.length + (A1 ++ [y]).length = P1.length + (A1.length + 1) by simp]
    have w:IntKind.wrap .i64 (((P1.length + (A1.length + 1):Nat):Int) - 1) = ((P1.length + A1.length:Nat):Int):=by rw [wsub1 (by omega) (by omega)]; congr 1
    have ea:P1 ++ (A1 ++ [y]) ++ x :: Q1 = (P1 ++ A1) ++ y :: (x :: Q1):=by simp
    have eb:P1 ++ (A1 ++ [y]) ++ x :: Q1 = (P1 ++ A1 ++ [y]) ++ x :: Q1:=by simp
    have hp:P1.length + A1.length = (P1 ++ A1).length:=by simp
    have hp2:P1.length + (A1.length + 1) = (P1 ++ A1 ++ [y]).length:=by simp <;> omega
    have g1:((P1 ++ (A1 ++ [y]) ++ x :: Q1)[Int.toNat ((P1.length + A1.length:Nat):Int)]?.getD Z_api_Container) = y:=by rw [ea]; exact get_mid hp
    have i1:decide (0 ≤ ((P1.length + A1.length:Nat):Int) ∧ ((P1.length + A1.length:Nat):Int) < (List.length (P1 ++ (A1 ++ [y]) ++ x :: Q1):Int)) = true:=by rw [ea]; exact in_mid hp
    have g2:((P1 ++ (A1 ++ [y]) ++ x :: Q1)[Int.toNat ((P1.length + (A1.length + 1):Nat):Int)]?.getD Z_api_Container) = x:=by rw [eb]; exact get_mid hp2
    have i2:decide (0 ≤ ((P1.length + (A1.length + 1):Nat):Int) ∧ ((P1.length + (A1.length + 1):Nat):Int) < (List.length (P1 ++ (A1 ++ [y]) ++ x :: Q1):Int)) = true:=by rw [eb]; exact in_mid hp2
    have s1:(P1 ++ (A1 ++ [y]) ++ x :: Q1).set (Int.toNat ((P1.length + (A1.length + 1):Nat):Int)) y = (P1 ++ A1) ++ y :: (y :: Q1):=by rw [eb,set_mid hp2]; simp
    have s2:((P1 ++ A1) ++ y :: (y :: Q1)).set (Int.toNat ((P1.length + A1.length:Nat):Int)) x = P1 ++ A1 ++ x :: (y :: Q1):=set_mid hp
    rw [if_pos (decide_eq_true (by omega)),w,if_pos i1,if_pos i2,g1,g2,s1,if_pos (in_mid hp),s2]
    simp only [lett]
    rw [ih P1 A1 (y :: Q1) (by omega) (by simp; omega)]; simp
 refine ⟨A.take j ++ x :: A.drop j,?_,?_,?_⟩
 ·rw [hr,Option.bind_some]
  have:=move n (P ++ A.take j) (A.drop j) Q (by simp; omega) (by simp; omega)
  rw [show (P ++ A.take j).length = P.length + j by simp; omega,show P.length + j + (A.drop j).length = P.length + A.length by simp; omega,show P ++ A.take j ++ A.drop j ++ x :: Q = P ++ A ++ x :: Q by rw [List.append_assoc P,List.take_append_drop]] at this
  rw [this]; simp
 ·refine List.perm_middle.trans ?_
  rw [List.take_append_drop]
  exact (List.perm_append_singleton x A).symm
 ·have ht:∀ b ∈ A.take j,LE b x:=fun b hb=>by
   obtain ⟨i,hi,rfl⟩:=List.mem_iff_getElem.1 hb
   have hi':i < j:=by simp at hi; omega
   have:=hr2 (P.length + i) (by omega) (by omega)
   rw [show P.length + i - P.length = i by omega,List.getElem?_eq_getElem (by omega)] at this
   rw [List.getElem_take]
   show LT _ _ = false
   simpa using this
  have hd:∀ b ∈ A.drop j,LE x b:=fun b hb=>by
   obtain ⟨i,hi,rfl⟩:=List.mem_iff_getElem.1 hb
   have hi':j + i < A.length:=by simp at hi; omega
   have:=hr3 (P.length + (j + i)) (by omega) (by omega)
   rw [show P.length + (j + i) - P.length = j + i by omega,List.getElem?_eq_getElem hi'] at this
   rw [List.getElem_drop]
   exact LE.of_lt (by simpa using this)
  refine srt_app (hs.sublist (List.take_sublist _ _)) (List.pairwise_cons.2 ⟨hd,hs.sublist (List.drop_sublist _ _)⟩) fun a ha b hb=>?_
  rcases List.mem_cons.1 hb with rfl | hb
  ·exact ht a ha
  ·exact (ht a ha).trans (hd b hb)
theorem merge_ok:∀ (d f:Nat) (P A B Q:LC),A.length + B.length ≤ d → d + 100000 ≤ f → 0 < A.length → 0 < B.length → Srt A → Srt B → P.length + A.length + B.length + Q.length < 20000 →
  ∃ C,slices_symMergeCmpFunc_api_Container__r0__view_sorted_1 f (P.length:Int) ((P.length + A.length:Nat):Int) ((P.length + A.length + B.length:Nat):Int) (P ++ A ++ B ++ Q) = some (P ++ C ++ Q) ∧ C.Perm (A ++ B) ∧ Srt C
 | 0,_,_,A,_,_,h,_,h',_,_,_,_=>by omega
 | d + 1,f,P,A,B,Q,hd,hf,ha,hb,hsa,hsb,hl=>by
  obtain ⟨n,rfl⟩:∃ n,f = n + 1:=⟨f - 1,by omega⟩
  show ∃ C,slices_symMergeCmpFunc_api_Container__r0__view_sorted_1_b (slices_symMergeCmpFunc_api_Container__r0__view_sorted_1 n) n (P.length:Int) ((P.length + A.length:Nat):Int) ((P.length + A.length + B.length:Nat):Int) (P ++ A ++ B ++ Q) = some (P ++ C ++ Q) ∧ C.Perm (A ++ B) ∧ Srt C
  unfold slices_symMergeCmpFunc_api_Container__r0__view_sorted_1_b
  rw [wsub (by omega) (by omega),wsub (by omega) (by omega),show P.length + A.length - P.length = A.length by omega,show P.length + A.length + B.length - (P.length + A.length) = B.length by omega]
  by_cases hA1:A.length = 1
  ·obtain ⟨x,rfl⟩:=List.length_eq_one_iff.1 hA1
   rw [if_pos (by simp)]
   have:=one_left (slices_symMergeCmpFunc_api_Container__r0__view_sorted_1 n) n (by omega) P x B Q hsb (by omega)
   simpa using this
  rw [if_neg (by simp; omega)]
  by_cases hB1:B.length = 1
  ·obtain ⟨x,rfl⟩:=List.length_eq_one_iff.1 hB1
   rw [if_pos (by simp)]
   have:=one_right (slices_symMergeCmpFunc_api_Container__r0__view_sorted_1 n) n (by omega) P x A Q hsa (by omega)
   simpa using this
  rw [if_neg (by simp; omega),if_pos (by decide)]
  simp only [lett]
  rw [half_eq (by omega)]
  generalize hh:(A.length + B.length) / 2 = h
  have hmid:(P.length + (P.length + A.length + B.length)) / 2 = P.length + h:=by omega
  rw [hmid,wadd (show P.length + h + (P.length + A.length) < 1000000000 by omega)]
  obtain ⟨lo,hi,hlo,hj5,hlh,hhA,hhh,hlB,hcase⟩:∃ lo hi:Nat,lo ≤ hi ∧ slices_symMergeCmpFunc_api_Container__r0__view_sorted_1_j5 (slices_symMergeCmpFunc_api_Container__r0__view_sorted_1 n) n (P ++ A ++ B ++ Q) (P.length:Int) ((P.length + A.length:Nat):Int) ((P.length + A.length + B.length:Nat):Int) ((P.length + h:Nat):Int) ((P.length + h + (P.length + A.length):Nat):Int) (decide (((P.length + A.length:Nat):Int) > ((P.length + h:Nat):Int))) = some (((P.length + lo:Nat):Int),((P.length + hi:Nat):Int)) ∧ lo ≤ h ∧ hi ≤ A.length ∧ hi ≤ h ∧ h - lo ≤ B.length ∧ ((h - lo = B.length ∧ hi = h) ∨ (lo = 0 ∧ hi = A.length)):=by
   unfold slices_symMergeCmpFunc_api_Container__r0__view_sorted_1_j5
   by_cases hc:A.length > h
   ·refine ⟨h - B.length,h,by omega,?_,by omega,by omega,by omega,by omega,.inl ⟨by omega,rfl⟩⟩
    rw [if_pos (decide_eq_true (by omega)),wsub (by omega) (by omega)]
    congr 2; omega
   ·refine ⟨0,A.length,by omega,?_,by omega,by omega,by omega,by omega,.inr ⟨rfl,rfl⟩⟩
    rw [if_neg (by simp; omega)]; rfl
  rw [hj5,Option.bind_some]
  dsimp only
  have hp1:IntKind.wrap .i64 (((P.length + h + (P.length + A.length):Nat):Int) - 1) = ((P.length + h + (P.length + A.length) - 1:Nat):Int):=wsub1 (by omega) (by omega)
  rw [hp1]
  obtain ⟨r,hr,hr0,hr1,hr2,hr3⟩:=bsearch (L:=slices_symMergeCmpFunc_api_Container__r0__view_sorted_1_l6 (slices_symMergeCmpFunc_api_Container__r0__view_sorted_1 n) n (P ++ A ++ B ++ Q) (P.length:Int) ((P.length + A.length:Nat):Int) ((P.length + A.length + B.length:Nat):Int) ((P.length + h:Nat):Int) ((P.length + h + (P.length + A.length):Nat):Int) ((P.length + h + (P.length + A.length) - 1:Nat):Int))
   (fun c=>!LT (B[h - 1 - (c - P.length)]?.getD Z_api_Container) (A[c - P.length]?.getD Z_api_Container)) (P.length + lo) (P.length + hi) (by omega)
   (fun k l0 h0 h1 h2 h3=>by
    have hi1:(l0 + h0) / 2 - P.length < A.length:=by omega
    have hi2:h - 1 - ((l0 + h0) / 2 - P.length) < B.length:=by omega
    have q1:(l0 + h0) / 2 = P.length + ((l0 + h0) / 2 - P.length):=by omega
    have q2:P.length + h + (P.length + A.length) - 1 - (l0 + h0) / 2 = (P ++ A).length + (h - 1 - ((l0 + h0) / 2 - P.length)):=by simp; omega
    have g1:((P ++ A ++ B ++ Q)[Int.toNat (((l0 + h0) / 2:Nat):Int)]?.getD Z_api_Container) = A[(l0 + h0) / 2 - P.length]:=by
     conv=>lhs; rw [q1,List.append_assoc (P ++ A)]
     exact get_seg P A (B ++ Q) _ hi1
    have i1:decide (0 ≤ (((l0 + h0) / 2:Nat):Int) ∧ (((l0 + h0) / 2:Nat):Int) < (List.length (P ++ A ++ B ++ Q):Int)) = true:=in_i (by simp; omega)
    have g2:((P ++ A ++ B ++ Q)[Int.toNat ((P.length + h + (P.length + A.length) - 1 - (l0 + h0) / 2:Nat):Int)]?.getD Z_api_Container) = B[h - 1 - ((l0 + h0) / 2 - P.length)]:=by
     conv=>lhs; rw [q2]
     exact get_seg (P ++ A) B Q _ hi2
    have i2:decide (0 ≤ ((P.length + h + (P.length + A.length) - 1 - (l0 + h0) / 2:Nat):Int) ∧ ((P.length + h + (P.length + A.length) - 1 - (l0 + h0) / 2:Nat):Int) < (List.length (P ++ A ++ B ++ Q):Int)) = true:=in_i (by simp; omega)
    obtain ⟨c,hc1,hc2⟩:=cmpV n (by omega) (B[h - 1 - ((l0 + h0) / 2 - P.length)]) (A[(l0 + h0) / 2 - P.length])
    rw [slices_symMergeCmpFunc_api_Container__r0__view_sorted_1_l6,if_pos (decide_eq_true (by omega)),if_pos (by decide)]
    simp only [lett]
    rw [half_eq (by omega),wsub (by omega) (by omega),if_pos i2,if_pos i1,g1,g2,hc1,Option.bind_some,hc2,wrap_s _ (by omega),List.getElem?_eq_getElem hi1,List.getElem?_eq_getElem hi2]
    rfl)
   (fun k l0=>by rw [slices_symMergeCmpFunc_api_Container__r0__view_sorted_1_l6,if_neg (by simp)])
   (fun i j h1 h2 h3 h4=>by
    have a1:i - P.length < A.length:=by omega
    have a2:j - P.length < A.length:=by omega
    have b1:h - 1 - (i - P.length) < B.length:=by omega
    have b2:h - 1 - (j - P.length) < B.length:=by omega
    rw [List.getElem?_eq_getElem a2,List.getElem?_eq_getElem b2] at h4
    rw [List.getElem?_eq_getElem a1,List.getElem?_eq_getElem b1]
    have h5:LE (A[j - P.length]) (B[h - 1 - (j - P.length)]):=by simpa using h4
    have h6:=((srt_get hsa (show i - P.length ≤ j - P.length by omega) a2).trans h5).trans (srt_get hsb (show h - 1 - (j - P.length) ≤ h - 1 - (i - P.length) by omega) b1)
    show (!LT (B[h - 1 - (i - P.length)]) (A[i - P.length])) = true
    rw [show LT (B[h - 1 - (i - P.length)]) (A[i - P.length]) = false from h6]; rfl)
   n (P.length + lo) (P.length + hi) (Nat.le_refl _) (by omega) (Nat.le_refl _) (by omega) (fun i a b=>by omega) (fun i a b=>by omega)
  rw [hr,Option.bind_some]
  obtain ⟨s,rfl⟩:∃ s,r = P.length + s:=⟨r - P.length,by omega⟩
  obtain ⟨t,ht⟩:∃ t,t = h - s:=⟨_,rfl⟩
  rw [wsub (show P.length + s ≤ P.length + h + (P.length + A.length) by omega) (by omega),show P.length + h + (P.length + A.length) - (P.length + s) = P.length + A.length + t by omega]
  have htB:t ≤ B.length:=by omega
  have hsA:s ≤ A.length:=by omega
  have hst:s + t = h:=by omega
  have la1:(A.take s).length = s:=by simp; omega
  have la2:(A.drop s).length = A.length - s:=by simp
  have lb1:(B.take t).length = t:=by simp; omega
  have lb2:(B.drop t).length = B.length - t:=by simp
  have s1:Srt (A.take s):=hsa.sublist (List.take_sublist _ _)
  have s2:Srt (A.drop s):=hsa.sublist (List.drop_sublist _ _)
  have s3:Srt (B.take t):=hsb.sublist (List.take_sublist _ _)
  have s4:Srt (B.drop t):=hsb.sublist (List.drop_sublist _ _)
  have x1:∀ a ∈ A.take s,∀ b ∈ B.drop t,LE a b:=by
   intro a ha' b hb'
   obtain ⟨i,hi1,rfl⟩:=List.mem_iff_getElem.1 ha'
   obtain ⟨j,hj1,rfl⟩:=List.mem_iff_getElem.1 hb'
   rw [la1] at hi1
   rw [lb2] at hj1
   rw [List.getElem_take,List.getElem_drop]
   have hs1:lo ≤ s - 1 ∧ 1 ≤ s:=by omega
   have:=hr2 (P.length + (s - 1)) (by omega) (by omega)
   rw [show P.length + (s - 1) - P.length = s - 1 by omega,show h - 1 - (s - 1) = t by omega,List.getElem?_eq_getElem (show s - 1 < A.length by omega),List.getElem?_eq_getElem (show t < B.length by omega)] at this
   have h5:LE (A[s - 1]) (B[t]):=by simpa using this
   exact ((srt_get hsa (show i ≤ s - 1 by omega) (by omega)).trans h5).trans (srt_get hsb (show t ≤ t + j by omega) (by omega))
  have x2:∀ b ∈ B.take t,∀ a ∈ A.drop s,LE b a:=by
   intro b hb' a ha'
   obtain ⟨i,hi1,rfl⟩:=List.mem_iff_getElem.1 ha'
   obtain ⟨j,hj1,rfl⟩:=List.mem_iff_getElem.1 hb'
   rw [la2] at hi1
   rw [lb1] at hj1
   rw [List.getElem_take,List.getElem_drop]
   have:=hr3 (P.length + s) (by omega) (by omega)
   rw [show P.length + s - P.length = s by omega,show h - 1 - s = t - 1 by omega,List.getElem?_eq_getElem (show s < A.length by omega),List.getElem?_eq_getElem (show t - 1 < B.length by omega)] at this
   have h5:LE (B[t - 1]) (A[s]):=LE.of_lt (by simpa using this)
   exact ((srt_get hsb (show j ≤ t - 1 by omega) (by omega)).trans h5).trans (srt_get hsa (show s ≤ s + i by omega) (by omega))
  have hj7:slices_symMergeCmpFunc_api_Container__r0__view_sorted_1_j7 (slices_symMergeCmpFunc_api_Container__r0__view_sorted_1 n) n (P ++ A ++ B ++ Q) (P.length:Int) ((P.length + A.length:Nat):Int) ((P.length + A.length + B.length:Nat):Int) ((P.length + h:Nat):Int) ((P.length + s:Nat):Int) ((P.length + A.length + t:Nat):Int) (bif decide (((P.length + s:Nat):Int) < ((P.length + A.length:Nat):Int)) then decide (((P.length + A.length:Nat):Int) < ((P.length + A.length + t:Nat):Int)) else false) = some (P ++ A.take s ++ B.take t ++ A.drop s ++ B.drop t ++ Q):=by
   unfold slices_symMergeCmpFunc_api_Container__r0__view_sorted_1_j7
   have eA:P ++ A ++ B ++ Q = (P ++ A.take s) ++ A.drop s ++ B.take t ++ (B.drop t ++ Q):=by
    calc P ++ A ++ B ++ Q = P ++ (A.take s ++ A.drop s) ++ (B.take t ++ B.drop t) ++ Q:=by rw [List.take_append_drop,List.take_append_drop]
     _ = _:=by simp only [List.append_assoc]
   by_cases hc:s < A.length ∧ 0 < t
   ·rw [if_pos (by simp; omega),eA,rotate_ok n (by omega) (P ++ A.take s) (A.drop s) (B.take t) (B.drop t ++ Q) (by omega) (by omega) (by simp only [List.length_append,la1,la2,lb1,lb2]; omega) _ _ _ (by simp only [List.length_append,la1]) (by simp only [List.length_append,la1,la2]; omega) (by simp only [List.length_append,la1,la2,lb1]; omega),Option.bind_some]
    simp
   ·rw [if_neg (by simp; omega)]
    have:A.drop s = [] ∨ B.take t = []:=by
     by_cases h1:s < A.length
     ·right; exact List.length_eq_zero_iff.1 (by omega)
     ·left; exact List.length_eq_zero_iff.1 (by omega)
    rw [eA]
    rcases this with e | e <;> rw [e] <;> simp only [List.append_nil,List.nil_append,List.append_assoc]
  rw [hj7,Option.bind_some]
  obtain ⟨C1,hj8,p1,c1⟩:∃ C1,slices_symMergeCmpFunc_api_Container__r0__view_sorted_1_j8 (slices_symMergeCmpFunc_api_Container__r0__view_sorted_1 n) n (P ++ A.take s ++ B.take t ++ A.drop s ++ B.drop t ++ Q) (P.length:Int) ((P.length + A.length + B.length:Nat):Int) ((P.length + h:Nat):Int) ((P.length + s:Nat):Int) ((P.length + A.length + t:Nat):Int) (bif decide ((P.length:Int) < ((P.length + s:Nat):Int)) then decide (((P.length + s:Nat):Int) < ((P.length + h:Nat):Int)) else false) = some (P ++ C1 ++ (A.drop s ++ B.drop t ++ Q)) ∧ C1.Perm (A.take s ++ B.take t) ∧ Srt C1:=by
   unfold slices_symMergeCmpFunc_api_Container__r0__view_sorted_1_j8
   by_cases hc:0 < s ∧ s < h
   ·obtain ⟨C1,f1,f2,f3⟩:=merge_ok d n P (A.take s) (B.take t) (A.drop s ++ B.drop t ++ Q) (by omega) (by omega) (by omega) (by omega) s1 s3 (by simp only [List.length_append,la1,la2,lb1,lb2]; omega)
    rw [la1,lb1,show P.length + s + t = P.length + h by omega] at f1
    rw [if_pos (by simp; omega),show P ++ A.take s ++ B.take t ++ A.drop s ++ B.drop t ++ Q = P ++ A.take s ++ B.take t ++ (A.drop s ++ B.drop t ++ Q) by simp,f1]
    exact ⟨C1,rfl,f2,f3⟩
   ·rw [if_neg (by simp; omega)]
    refine ⟨A.take s ++ B.take t,by simp,.refl _,?_⟩
    by_cases h1:0 < s
    ·rw [List.length_eq_zero_iff.1 (show (B.take t).length = 0 by omega),List.append_nil]; exact s1
    ·rw [List.length_eq_zero_iff.1 (show (A.take s).length = 0 by omega)]; exact s3
  rw [hj8,Option.bind_some]
  have lC1:C1.length = h:=by rw [p1.length_eq,List.length_append,la1,lb1]; omega
  have perm:∀ C2:LC,C2.Perm (A.drop s ++ B.drop t) → (C1 ++ C2).Perm (A ++ B):=by
   intro C2 p2
   refine (p1.append p2).trans ?_
   conv=>rhs; rw [← List.take_append_drop s A,← List.take_append_drop t B]
   rw [List.append_assoc,List.append_assoc]
   refine List.Perm.append_left _ ?_
   rw [← List.append_assoc,← List.append_assoc]
   exact List.Perm.append_right _ List.perm_append_comm
  have sorted:∀ C2:LC,C2.Perm (A.drop s ++ B.drop t) → Srt C2 → Srt (C1 ++ C2):=by
   intro C2 p2 c2
   refine srt_app c1 c2 fun x hx y hy=>?_
   have hx:=p1.mem_iff.1 hx
   have hy:=p2.mem_iff.1 hy
   rcases List.mem_append.1 hx with hx | hx
   ·rcases List.mem_append.1 hy with hy | hy
    ·have:=hsa
     rw [← List.take_append_drop s A] at this
     exact (List.pairwise_append.1 this).2.2 x hx y hy
    ·exact x1 x hx y hy
   ·rcases List.mem_append.1 hy with hy | hy
    ·exact x2 x hx y hy
    ·have:=hsb
     rw [← List.take_append_drop t B] at this
     exact (List.pairwise_append.1 this).2.2 x hx y hy
  by_cases hc:h < A.length + t ∧ t < B.length
  ·rw [if_pos (by simp; omega)]
   obtain ⟨C2,f1,f2,f3⟩:=merge_ok d n (P ++ C1) (A.drop s) (B.drop t) Q (by omega) (by omega) (by omega) (by omega) s2 s4 (by simp only [List.length_append,lC1,la2,lb2]; omega)
   rw [List.length_append,lC1,la2,lb2,show P.length + h + (A.length - s) = P.length + A.length + t by omega,show P.length + A.length + t + (B.length - t) = P.length + A.length + B.length by omega] at f1
   rw [show P ++ C1 ++ (A.drop s ++ B.drop t ++ Q) = P ++ C1 ++ A.drop s ++ B.drop t ++ Q by simp,f1]
   exact ⟨C1 ++ C2,by simp,perm C2 f2,sorted C2 f2 f3⟩
  ·rw [if_neg (by simp; omega)]
   refine ⟨C1 ++ (A.drop s ++ B.drop t),by simp,perm _ (.refl _),sorted _ (.refl _) ?_⟩
   by_cases h1:t < B.length
   ·rw [List.length_eq_zero_iff.1 (show (A.drop s).length = 0 by omega)]; exact s4
   ·rw [List.length_eq_zero_iff.1 (show (B.drop t).length = 0 by omega),List.append_nil]; exact s2
inductive Chunks (w:Nat):LC → Prop
 | last {l:LC}:l.length ≤ w → Srt l → Chunks w l
 | more {A l:LC}:A.length = w → Srt A → Chunks w l → Chunks w (A ++ l)
theorem Chunks.split {w:Nat}:∀ {l:LC},Chunks w l → w ≤ l.length → ∃ A B,l = A ++ B ∧ A.length = w ∧ Srt A ∧ Chunks w B
 | _,.last h1 h2,h=>⟨_,[],by simp,by omega,h2,.last (by simp) .nil⟩
 | _,.more h1 h2 h3,_=>⟨_,_,rfl,h1,h2,h3⟩
theorem Chunks.small {w:Nat}:∀ {l:LC},Chunks w l → l.length ≤ w → Srt l
 | _,.last _ h2,_=>h2
 | _,.more (A:=A) (l:=l) h1 h2 h3,h=>by
  have:l = []:=List.length_eq_zero_iff.1 (by simp at h; omega)
  subst this
  simpa using h2
theorem st_l1 (n:Nat) (hn:200000 ≤ n):∀ (k:Nat) (P R:LC),R.length < k → P.length + R.length < 10000 →
  ∃ (C R2:LC),slices_stableCmpFunc_api_Container__r0__view_sorted_1_l1 n ((P.length + R.length:Nat):Int) 20 k (P ++ R) (P.length:Int) ((P.length + 20:Nat):Int) = some (P ++ C ++ R2,((P ++ C).length:Int)) ∧ (C ++ R2).Perm R ∧ R2.length < 20 ∧ ∀ D,Chunks 20 D → Chunks 20 (C ++ D)
 | 0,_,_,h,_=>by omega
 | k + 1,P,R,h1,h2=>by
  rw [slices_stableCmpFunc_api_Container__r0__view_sorted_1_l1]
  by_cases h:20 ≤ R.length
  ·rw [if_pos (decide_eq_true (by omega))]
   obtain ⟨A,R',rfl,hA⟩:∃ A R',R = A ++ R' ∧ A.length = 20:=⟨R.take 20,R.drop 20,by simp,by simp; omega⟩
   rw [List.length_append] at h1 h2 h
   obtain ⟨C,f1,f2,f3⟩:=ins_ok n (by omega) P A R' (by simp only [List.length_append]; omega)
   have lC:C.length = 20:=by rw [f2.length_eq]; exact hA
   rw [hA] at f1
   rw [← List.append_assoc,f1,Option.bind_some,show ((P.length + 20:Nat):Int) + 20 = ((P.length + 20:Nat):Int) + ((20:Nat):Int) from rfl,wadd (by omega)]
   obtain ⟨C2,R2,g1,g2,g3,g4⟩:=st_l1 n hn k (P ++ C) R' (by omega) (by simp only [List.length_append]; omega)
   have e1:(P ++ C).length + R'.length = P.length + (A ++ R').length:=by simp only [List.length_append]; omega
   have e2:(P ++ C).length = P.length + 20:=by simp only [List.length_append]; omega
   rw [e1,e2] at g1
   refine ⟨C ++ C2,R2,?_,?_,g3,fun D hD=>?_⟩
   ·rw [g1]; simp
   ·rw [List.append_assoc]; exact f2.append g2
   ·rw [List.append_assoc]; exact .more lC f3 (g4 D hD)
  ·rw [if_neg (by simp; omega)]
   exact ⟨[],R,by simp,by simp,by omega,fun D hD=>by simpa using hD⟩
theorem st_l3 (n:Nat) (hn:200000 ≤ n) (w:Nat) (hw:1 ≤ w) (hw2:w < 10000):∀ (k:Nat) (P R:LC),R.length < k → P.length + R.length < 10000 → Chunks w R →
  ∃ (C R2:LC),slices_stableCmpFunc_api_Container__r0__view_sorted_1_l3 n ((P.length + R.length:Nat):Int) (w:Int) k (P ++ R) (P.length:Int) ((P.length + 2 * w:Nat):Int) = some (P ++ C ++ R2,((P ++ C).length:Int)) ∧ (C ++ R2).Perm R ∧ R2.length < 2 * w ∧ Chunks w R2 ∧ ∀ D,Chunks (2 * w) D → Chunks (2 * w) (C ++ D)
 | 0,_,_,h,_,_=>by omega
 | k + 1,P,R,h1,h2,hc=>by
  rw [slices_stableCmpFunc_api_Container__r0__view_sorted_1_l3]
  by_cases h:2 * w ≤ R.length
  ·rw [if_pos (decide_eq_true (by omega))]
   obtain ⟨A,R1,rfl,hA,sA,c1⟩:=hc.split (by omega)
   rw [List.length_append] at h1 h2 h
   obtain ⟨B,R',rfl,hB,sB,c2⟩:=c1.split (by omega)
   rw [List.length_append] at h1 h2 h
   obtain ⟨C,f1,f2,f3⟩:=merge_ok (A.length + B.length) n P A B R' (Nat.le_refl _) (by omega) (by omega) (by omega) sA sB (by omega)
   have lC:C.length = 2 * w:=by rw [f2.length_eq,List.length_append]; omega
   rw [hA,hB,show P.length + w + w = P.length + 2 * w by omega] at f1
   have w2:IntKind.wrap .i64 (2 * (w:Int)) = ((2 * w:Nat):Int):=by rw [show (2:Int) * (w:Int) = ((2 * w:Nat):Int) by omega]; exact wrap_idn _ (by omega)
   rw [wadd (by omega),show P ++ (A ++ (B ++ R')) = P ++ A ++ B ++ R' by simp,f1,Option.bind_some,w2,wadd (by omega)]
   obtain ⟨C2,R2,g1,g2,g3,g4,g5⟩:=st_l3 n hn w hw hw2 k (P ++ C) R' (by omega) (by simp only [List.length_append]; omega) c2
   have e1:(P ++ C).length + R'.length = P.length + (A ++ (B ++ R')).length:=by simp only [List.length_append]; omega
   have e2:(P ++ C).length = P.length + 2 * w:=by simp only [List.length_append]; omega
   rw [e1,e2] at g1
   refine ⟨C ++ C2,R2,?_,?_,g3,g4,fun D hD=>?_⟩
   ·rw [g1]; simp
   ·rw [List.append_assoc,← List.append_assoc A]; exact f2.append g2
   ·rw [List.append_assoc]; exact .more lC f3 (g5 D hD)
  ·rw [if_neg (by simp; omega)]
   exact ⟨[],R,by simp,by simp,by omega,hc,fun D hD=>by simpa using hD⟩
theorem st_round (n:Nat) (hn:200000 ≤ n) (w:Nat) (hw:1 ≤ w) (hw2:w < 10000) (R:LC) (hl:R.length < 10000) (hc:Chunks w R) :
  ∃ C,((slices_stableCmpFunc_api_Container__r0__view_sorted_1_l3 n (R.length:Int) (w:Int) n R 0 (IntKind.wrap .i64 (2 * (w:Int)))).bind fun o3=>slices_stableCmpFunc_api_Container__r0__view_sorted_1_j4 n o3.1 (R.length:Int) (w:Int) o3.2 (IntKind.wrap .i64 (o3.2 + (w:Int))) (decide ((IntKind.wrap .i64 (o3.2 + (w:Int))) < (R.length:Int)))) = some C ∧ C.Perm R ∧ Chunks (2 * w) C:=by
 have w2:IntKind.wrap .i64 (2 * (w:Int)) = ((2 * w:Nat):Int):=by rw [show (2:Int) * (w:Int) = ((2 * w:Nat):Int) by omega]; exact wrap_idn _ (by omega)
 obtain ⟨C,R2,g1,g2,g3,g4,g5⟩:=st_l3 n hn w hw hw2 n [] R (by omega) (by simpa using hl) hc
 simp only [List.length_nil,Nat.zero_add,List.nil_append] at g1
 have g1:slices_stableCmpFunc_api_Container__r0__view_sorted_1_l3 n (R.length:Int) (w:Int) n R 0 ((2 * w:Nat):Int) = _:=g1
 have hlen:C.length + R2.length = R.length:=by rw [← List.length_append,g2.length_eq]
 rw [w2,g1,Option.bind_some]
 dsimp only
 unfold slices_stableCmpFunc_api_Container__r0__view_sorted_1_j4
 rw [wadd (by omega)]
 by_cases h:w < R2.length
 ·rw [if_pos (decide_eq_true (by omega))]
  obtain ⟨A,B,rfl,hA,sA,c1⟩:=g4.split (by omega)
  rw [List.length_append] at g3 h hlen
  obtain ⟨D,f1,f2,f3⟩:=merge_ok (A.length + B.length) n C A B [] (Nat.le_refl _) (by omega) (by omega) (by omega) sA (c1.small (by omega)) (by simp only [List.length_nil]; omega)
  simp only [List.append_nil] at f1
  rw [hA,show C.length + w + B.length = R.length by omega] at f1
  rw [← List.append_assoc,f1]
  refine ⟨C ++ D,rfl,(List.Perm.append_left C f2).trans g2,g5 D (.last (by rw [f2.length_eq,List.length_append]; omega) f3)⟩
 ·rw [if_neg (by simp; omega)]
  exact ⟨C ++ R2,rfl,g2,g5 R2 (.last (by omega) (g4.small (by omega)))⟩
theorem st_l2 (n:Nat) (hn:200000 ≤ n):∀ (k:Nat) (w:Nat) (R:LC),1 ≤ w → w < 2000 → R.length < 1000 → R.length < w * 2 ^ k → Chunks w R → ∃ C,slices_stableCmpFunc_api_Container__r0__view_sorted_1_l2 n (R.length:Int) (k + 1) R (w:Int) = some C ∧ C.Perm R ∧ Srt C
 | 0,w,R,hw,hw2,hl,hk,hc=>by
  rw [slices_stableCmpFunc_api_Container__r0__view_sorted_1_l2,if_neg (by simp at hk; simp; omega)]
  exact ⟨R,rfl,.refl _,hc.small (by simp at hk; omega)⟩
 | k + 1,w,R,hw,hw2,hl,hk,hc=>by
  rw [slices_stableCmpFunc_api_Container__r0__view_sorted_1_l2]
  by_cases h:w < R.length
  ·rw [if_pos (decide_eq_true (by omega))]
   obtain ⟨C,f1,f2,f3⟩:=st_round n hn w hw (by omega) R (by omega) hc
   have w2:IntKind.wrap .i64 ((w:Int) * 2) = ((2 * w:Nat):Int):=by rw [show (w:Int) * 2 = ((2 * w:Nat):Int) by omega]; exact wrap_idn _ (by omega)
   cases e3:slices_stableCmpFunc_api_Container__r0__view_sorted_1_l3 n (R.length:Int) (w:Int) n R 0 (IntKind.wrap .i64 (2 * (w:Int))) with
   | none=>rw [e3] at f1; cases f1
   | some o3 =>
    rw [e3,Option.bind_some] at f1
    rw [Option.bind_some,f1,Option.bind_some,w2]
    have hlC:C.length = R.length:=f2.length_eq
    obtain ⟨D,g1,g2,g3⟩:=st_l2 n hn k (2 * w) C (by omega) (by omega) (by omega) (by rw [hlC,Nat.mul_comm 2 w,Nat.mul_assoc,← Nat.pow_succ']; exact hk) f3
    rw [hlC] at g1
    exact ⟨D,g1,g2.trans f2,g3⟩
  ·rw [if_neg (by simp; omega)]
   exact ⟨R,rfl,.refl _,hc.small (by omega)⟩
theorem sorted_ok (n:Nat) (hn:200000 ≤ n) (R:LC) (hl:R.length < 1000):∃ C,view_sorted_o__r0 n R = some C ∧ C.Perm R ∧ Srt C:=by
 unfold view_sorted_o__r0 slices_SortStableFunc_api_Container_api_Container__r0__view_sorted_1 slices_stableCmpFunc_api_Container__r0__view_sorted_1
 obtain ⟨C,R2,g1,g2,g3,g4⟩:=st_l1 n hn n [] R (by omega) (by simp; omega)
 simp only [List.length_nil,Nat.zero_add,List.nil_append] at g1
 have g1:slices_stableCmpFunc_api_Container__r0__view_sorted_1_l1 n (R.length:Int) 20 n R 0 20 = _:=g1
 have hlen:C.length + R2.length = R.length:=by rw [← List.length_append,g2.length_eq]
 rw [g1,Option.bind_some]
 dsimp only
 obtain ⟨D,f1,f2,f3⟩:=ins_ok n (by omega) C R2 [] (by simp only [List.length_append,List.length_nil]; omega)
 simp only [List.append_nil] at f1
 rw [hlen] at f1
 rw [f1,Option.bind_some]
 have hperm:(C ++ D).Perm R:=(List.Perm.append_left C f2).trans g2
 have hlD:(C ++ D).length = R.length:=hperm.length_eq
 obtain ⟨m,rfl⟩:∃ m,n = m + 1:=⟨n - 1,by omega⟩
 have hbig:(C ++ D).length < 20 * 2 ^ m:=by
  have:2 ^ 10 ≤ 2 ^ m:=Nat.pow_le_pow_right (by omega) (by omega)
  omega
 obtain ⟨E,h1,h2,h3⟩:=st_l2 (m + 1) hn m 20 (C ++ D) (by omega) (by omega) (by omega) hbig (g4 D (.last (by rw [f2.length_eq]; omega) f3))
 rw [hlD] at h1
 have h1:slices_stableCmpFunc_api_Container__r0__view_sorted_1_l2 (m + 1) (R.length:Int) (m + 1) (C ++ D) 20 = _:=h1
 rw [h1]
 exact ⟨E,rfl,h2.trans hperm,h3⟩
end Go.Proofs.Ytaecmkldkljioaa.M
