import Derived.Test.YtibgdilkodjojaaDoorQM12
import Derived.Test.YtibgdilkodjojaaDoorQLoop
import Derived.Test.YtibgdilkodjojaaDoorQStr
import Derived.Test.YtibgdilkodjojaaDoorQRxShelf
set_option linter.all false
namespace Go.Proofs.YtibgdilkodjojaaDoor.M
open Go Go.Proofs.YtibgdilkodjojaaDoor.RX Go.Proofs.YtibgdilkodjojaaDoor.PL
set_option maxRecDepth 100000
def good (c:UInt8):Bool:=decide (32 ≤ c.toNat) && c.toNat != 127
theorem ok_good:∀ c:UInt8,quote_ok (c.toNat:Int) = good c:=byte_all (by decide +kernel)
theorem b34 (c:UInt8):((c.toNat:Int) == 34) = decide (c = 34):=beq_byte c 34 (by decide)
theorem b92 (c:UInt8):((c.toNat:Int) == 92) = decide (c = 92):=beq_byte c 92 (by decide)
theorem b10 (c:UInt8):((c.toNat:Int) == 10) = decide (c = 10):=beq_byte c 10 (by decide)
theorem b9 (c:UInt8):((c.toNat:Int) == 9) = decide (c = 9):=beq_byte c 9 (by decide)
theorem b39 (c:UInt8):((c.toNat:Int) == 39) = decide (c = 39):=beq_byte c 39 (by decide)
theorem b35 (c:UInt8):((c.toNat:Int) == 35) = decide (c = 35):=beq_byte c 35 (by decide)
theorem b110 (c:UInt8):((c.toNat:Int) == 110) = decide (c = 110):=beq_byte c 110 (by decide)
theorem b116 (c:UInt8):((c.toNat:Int) == 116) = decide (c = 116):=beq_byte c 116 (by decide)
theorem b120 (c:UInt8):((c.toNat:Int) == 120) = decide (c = 120):=beq_byte c 120 (by decide)
def isName (p q:UInt8 → Bool):BS → Bool
 | []=>false
 | c :: s=>decide (s.length < 24) && p c && s.all q
theorem findSome_anyF {α:Type} (p:α → Bool):∀ l:List α,l.findSome? (fun x=>if p x = true then some false else none) = if l.any p = true then some false else none
 | []=>rfl
 | x :: l=>by rw [List.findSome?_cons,List.any_cons,findSome_anyF p l]; cases p x <;> simp
theorem any_not {α:Type} (p:α → Bool) (l:List α):l.any (fun x=>!p x) = !l.all p:=by induction l <;> simp_all
theorem kind_impl (n:Nat) (L:List UInt8 → Nat → Int → Option (Sum Unit Bool)) (p q:UInt8 → Bool) (s:BS) (hn:100 ≤ n)
  (hs:∀ k i (h:i < s.length),L s (k + 1) (i:Int) = if (!(q s[i])) = true then some (.inr false) else L s k (IntKind.wrap .i64 ((i:Int) + 1)))
  (he:∀ k,L s (k + 1) (s.length:Int) = some (.inl ())) :
  (if ((!((bif (decide ((List.length s:Int) < 1)) then true else (decide ((List.length s:Int) > 24))) == false) || decide (0 ≤ (0:Int) ∧ (0:Int) < (List.length s:Int)))) = true then (lett ((bif (bif (decide ((List.length s:Int) < 1)) then true else (decide ((List.length s:Int) > 24))) then true else (!(p ((s)[Int.toNat 0]?.getD 0)))):Bool) fun x1 =>
   if x1 = true then some false
   else ((L s n 1).bind fun o2=>(Sum.elim (fun _=>some true) (fun o2=>some o2)) o2)) else none) = some (isName p q s):=by
 cases s with
 | nil=>simp [lett,isName]
 | cons c t =>
  have e1:decide ((List.length (c :: t):Int) < 1) = false:=decide_eq_false (by simp; omega)
  have e2:decide (0 ≤ (0:Int) ∧ (0:Int) < (List.length (c :: t):Int)) = true:=decide_eq_true (by rw [List.length_cons]; omega)
  simp only [e1,e2,cond_false,Bool.or_true,if_true,Int.toNat_zero,List.getElem?_cons_zero,Option.getD_some,lett]
  by_cases h:t.length < 24
  ·have e3:decide ((List.length (c :: t):Int) > 24) = false:=decide_eq_false (by simp; omega)
   simp only [e3,cond_false,isName,decide_eq_true h,Bool.true_and]
   have:=scanL (L:=L (c :: t)) (c :: t) (fun x=>if (!q x) = true then some false else none) 1 (by simp; omega)
    (fun k i hi _=>by rw [hs k i hi]; cases q (c :: t)[i] <;> rfl) he n 1 (by omega) (by simp) (by simp; omega)
   rw [show (1:Int) = ((1:Nat):Int) from rfl,this,List.drop_one,List.tail_cons,findSome_anyF,any_not]
   cases p c <;> cases t.all q <;> rfl
  ·have e3:decide ((List.length (c :: t):Int) > 24) = true:=decide_eq_true (by simp; omega)
   rw [e3,isName,decide_eq_false h]; rfl
def va1 (c:UInt8):=name_Variable_1 (c.toNat:Int)
def va2 (c:UInt8):=name_Variable_2 (c.toNat:Int)
theorem i0 {i:Nat} (h:1 ≤ i):((i:Int) == 0) = false:=by rw [beq_eq_false_iff_ne]; omega
theorem name_Variable_eq (n:Nat) (s:BS) (hn:100 ≤ n):name_Variable n s = some (isName va1 va2 s):=by
 have h:name_of__name_Variable_1__name_Variable_2 n s = some (isName va1 va2 s):=kind_impl n (name_of__name_Variable_1__name_Variable_2_l1 n) va1 va2 s hn (fun k i h=>by rw [name_of__name_Variable_1__name_Variable_2_l1,if_pos (lt_i h),if_pos (in_i h),at_i h]; rfl) (fun k=>by rw [name_of__name_Variable_1__name_Variable_2_l1,nlt_n]; rfl)
 unfold name_Variable
 rw [h]; rfl
theorem fits9 {a b:Nat} (h:a + b ≤ 1000000000):decide ((a + b) * (1 + 1) ≤ limit) = true:=decide_eq_true (by show (a + b) * (1 + 1) ≤ 140737488355328; omega)
def hexv (c:UInt8):Option Nat:=if 48 ≤ c.toNat ∧ c.toNat ≤ 57 then some (c.toNat - 48) else if 97 ≤ c.toNat ∧ c.toNat ≤ 102 then some (c.toNat - 87) else if 65 ≤ c.toNat ∧ c.toNat ≤ 70 then some (c.toNat - 55) else none
theorem hexv_lt:∀ (c:UInt8) (v:Nat),hexv c = some v → v < 16:=by
 intro c v h
 unfold hexv at h
 repeat' split at h
 all_goals first | (cases h; done) | (cases h; omega)
def hv (c:UInt8):Int:=match hexv c with | some v=>v | none=>16
def hb (c:UInt8):Int × Bool:=match hexv c with | some v=>(v,true) | none=>(0,false)
theorem hq:∀ c:UInt8,quote_hex (c.toNat:Int) = hb c:=byte_all (by decide +kernel)
theorem pairq:∀ v:Nat,v < 16 → ∀ w:Nat,w < 16 → (IntKind.wrap .u8 ((BitVec.ofInt (IntKind.bits .u8) (IntKind.wrap .u8 ((v:Int) * 2 ^ (min (Int.toNat 4) (IntKind.bits .u8)))) ||| BitVec.ofInt (IntKind.bits .u8) (w:Int)).toNat)) = (((UInt8.ofNat (v * 16 + w)).toNat:Nat):Int):=by decide +kernel
def uesc:List UInt8 → Option (UInt8 × Nat)
 | []=>none
 | d :: r =>
  if d = 92 ∨ d = 34 then some (d,2) else if d = 110 then some (10,2) else if d = 116 then some (9,2)
  else if d = 120 then (match r with | x :: y :: _=>(match hexv x,hexv y with | some v,some w=>some (UInt8.ofNat (v * 16 + w),4) | _,_=>none) | _=>none) else none
def ures (o:Option (UInt8 × Nat)):Int × Int:=match o with | some (b,l)=>((b.toNat:Int),(l:Int)) | none=>(0,0)
theorem escape_eq (n:Nat) (x:UInt8) (t:List UInt8):quote_escape n (x :: t) = some (ures (uesc t)):=by
 unfold quote_escape
 cases t with
 | nil=>rfl
 | cons d r =>
  have h2:decide ((List.length (x :: d :: r):Int) < 2) = false:=decide_eq_false (by simp only [List.length_cons]; omega)
  have h1:decide (0 ≤ (1:Int) ∧ (1:Int) < (List.length (x :: d :: r):Int)) = true:=decide_eq_true (by simp only [List.length_cons]; omega)
  have g1:((x :: d :: r)[Int.toNat 1]?.getD 0) = d:=rfl
  rw [h2,if_neg Bool.false_ne_true,if_pos h1,g1]
  unfold quote_escape_j1 quote_escape_j2
  rw [b92,b34,b110,b116,b120,h1,g1]
  unfold uesc
  by_cases c92:d = 92
  ·subst c92; rfl
  ·by_cases c34:d = 34
   ·subst c34; rfl
   ·by_cases c110:d = 110
    ·subst c110; rfl
    ·by_cases c116:d = 116
     ·subst c116; rfl
     ·by_cases c120:d = 120
      ·subst c120
       cases r with
       | nil=>rfl
       | cons y r =>
        cases r with
        | nil=>rfl
        | cons z r =>
         have h4:decide ((List.length (x :: 120 :: y :: z :: r):Int) < 4) = false:=decide_eq_false (by simp only [List.length_cons]; omega)
         have i2:decide (0 ≤ (2:Int) ∧ (2:Int) < (List.length (x :: 120 :: y :: z :: r):Int)) = true:=decide_eq_true (by simp only [List.length_cons]; omega)
         have i3:decide (0 ≤ (3:Int) ∧ (3:Int) < (List.length (x :: 120 :: y :: z :: r):Int)) = true:=decide_eq_true (by simp only [List.length_cons]; omega)
         have g2:((x :: 120 :: y :: z :: r)[Int.toNat 2]?.getD 0) = y:=rfl
         have g3:((x :: 120 :: y :: z :: r)[Int.toNat 3]?.getD 0) = z:=rfl
         rw [h4,i2,i3,g2,g3]
         simp only [lett,hq,hb]
         cases hy:hexv y with
         | none=>simp [ures]
         | some v =>
          cases hz:hexv z with
          | none=>simp [ures]
          | some w =>
           have:=pairq v (hexv_lt _ _ hy) w (hexv_lt _ _ hz)
           simp only [this]
           simp [ures]
      ·simp [c92,c34,c110,c116,c120,ures]
theorem uesc_len {t:List UInt8} {b:UInt8} {l:Nat} (h:uesc t = some (b,l)):2 ≤ l ∧ l ≤ 4 ∧ l ≤ t.length + 1:=by
 cases t with
 | nil=>cases h
 | cons d r =>
  cases r with
  | nil =>
   simp only [uesc] at h
   repeat' split at h
   all_goals first | (cases h; done) | (cases h; simp only [List.length_cons]; omega)
  | cons y r =>
   cases r with
   | nil =>
    simp only [uesc] at h
    repeat' split at h
    all_goals first | (cases h; done) | (cases h; simp only [List.length_cons]; omega)
   | cons z r =>
    simp only [uesc] at h
    repeat' split at h
    all_goals first | (cases h; done) | (cases h; simp only [List.length_cons]; omega)
theorem byte_rt (b:UInt8):decide (0 ≤ (b.toNat:Int) ∧ (b.toNat:Int) < 256) = true ∧ UInt8.ofNat (Int.toNat (b.toNat:Int)) = b:=by
 have:=b.toNat_lt
 refine ⟨decide_eq_true (by omega),?_⟩
 simp
theorem q34 (n k:Nat) (s acc:List UInt8) (i:Nat) (hs:s.length ≤ 100000000) (ha:acc.length ≤ 100000000) (h:i < s.length):quote_Scan_l1 n s 34 (k + 1) (i:Int) acc =
  if good s[i] = false then some (.inl ()) else if s[i] = 34 then some (.inr (acc,((i + 1:Nat):Int),0))
  else if s[i] = 92 then (match uesc (s.drop (i + 1)) with | none=>some (.inr ([],0,3)) | some (b,l)=>quote_Scan_l1 n s 34 k ((i + l:Nat):Int) (acc ++ [b]))
  else quote_Scan_l1 n s 34 k ((i + 1:Nat):Int) (acc ++ [s[i]]):=by
 rw [quote_Scan_l1]
 have hle:decide (0 ≤ (i:Int) ∧ (i:Int) ≤ (List.length s:Int)) = true:=decide_eq_true (by omega)
 have hf:∀ b:UInt8,decide ((List.length acc + List.length [b]) * (1 + 1) ≤ limit) = true:=fun b=>fits9 (by simp; omega)
 have e39:∀ c:UInt8,(bif ((c.toNat:Int) == 39) then ((34:Int) == (c.toNat:Int)) else false) = false:=byte_all (by decide +kernel)
 have hdrop:List.drop (Int.toNat (i:Int)) s = s[i] :: s.drop (i + 1):=drop_at h
 have hesc:=escape_eq n s[i] (s.drop (i + 1))
 simp only [in_i h,lt_i h,at_i h,ok_good,e39,lett,hle,hdrop,hesc,b34,b92,wrap_s i (by omega),hf,Bool.or_true,if_true,cond_true,cond_false,Option.bind_some]
 cases hg:good s[i] with
 | false=>simp
 | true =>
  by_cases c34:s[i] = 34
  ·simp [c34]
  ·by_cases c92:s[i] = 92
   ·cases hu:uesc (s.drop (i + 1)) with
    | none=>simp [c92,ures]
    | some p =>
     obtain ⟨b,l⟩:=p
     have hl:=uesc_len hu
     have hw:IntKind.wrap .i64 ((i:Int) + (l:Int)) = ((i + l:Nat):Int):=PL.wrap_add _ _ (by omega)
     have hl0:((l:Int) == 0) = false:=by rw [beq_eq_false_iff_ne]; omega
     obtain ⟨r1,r2⟩:=byte_rt b
     generalize hJ:((i + l:Nat):Int) = J at hw
     generalize quote_Scan_l1 n s 34 k = f
     simp only [c92]
     have e2:¬ ((92:UInt8) = 34):=by decide
     have e1:¬ (decide ((92:UInt8) = 34) = true):=by decide
     have e3:∀ q:Bool,((!false == true || q)) = true:=fun _=>rfl
     have e4:(bif decide True then (34:Int) == 34 else false) = true:=rfl
     have e5:¬ (true = false):=by decide
     rw [if_neg e5,if_neg e2,if_pos trivial,if_pos trivial,if_pos (e3 _),if_neg Bool.false_ne_true,if_neg e1,if_pos e4]
     refine (if_neg (show ¬ (((l:Int) == 0) = true) from by rw [hl0]; exact Bool.false_ne_true)).trans ?_
     refine (if_pos r1).trans ?_
     show f (IntKind.wrap .i64 ((i:Int) + (l:Int))) (acc ++ [UInt8.ofNat (Int.toNat (b.toNat:Int))]) = _
     rw [hw,r2,hJ]
   ·simp [c34,c92]
def finq (r:Sum Unit (List UInt8 × Int × Int)):List UInt8 × Int × Int:=match r with | .inl _=>([],0,3) | .inr o=>o
theorem scan_open (n:Nat) (S:List UInt8) (i:Nat) (hS:S.length ≤ 100000000) (h:i < S.length) (hc:S[i] = 34 ∨ S[i] = 39):quote_Scan n S (i:Int) = (quote_Scan_l1 n S (S[i].toNat:Int) n ((i + 1:Nat):Int) []).bind fun o=>some (finq o):=by
 unfold quote_Scan
 have d1:decide ((i:Int) < 0) = false:=decide_eq_false (by omega)
 have d2:decide ((i:Int) ≥ (S.length:Int)) = false:=decide_eq_false (by omega)
 have n34:((S[i].toNat:Int) != 34) = !(decide (S[i] = 34)):=by rw [← b34]; rfl
 have n39:((S[i].toNat:Int) != 39) = !(decide (S[i] = 39)):=by rw [← b39]; rfl
 simp only [d1,d2,in_i h,at_i h,n34,n39,lett,wrap_s i (by omega),Bool.or_true,if_true,cond_false]
 have hx:(bif !decide (S[i] = 34) then !decide (S[i] = 39) else false) = false:=by
  rcases hc with hc | hc <;> rw [hc] <;> decide
 rw [hx,if_neg Bool.false_ne_true]
 congr 1
 funext o
 cases o <;> rfl
theorem hr:∀ c:UInt8,ref06_value (c.toNat:Int) = hv c:=byte_all (by decide +kernel)
def Nx (s:List UInt8) (i:Nat) (o:List UInt8 × Int × Int):Prop:=o.2.2 = 0 → ∃ j:Nat,o.2.1 = (j:Int) ∧ i < j ∧ j ≤ s.length ∧ (s[j - 1]?.getD 0) ≠ 32
theorem Nx.le {s:List UInt8} {i i':Nat} {o:List UInt8 × Int × Int} (h:Nx s i' o) (hi:i ≤ i'):Nx s i o:=fun e=>let ⟨j,h1,h2,h3,h4⟩:=h e; ⟨j,h1,by omega,h3,h4⟩
theorem trimR_cons (c:UInt8) (l:BS):Lib.trimRightB (c :: l) 32 = if Lib.trimRightB l 32 = [] then (if c = 32 then [] else [c]) else c :: Lib.trimRightB l 32:=by
 unfold Lib.trimRightB
 rw [List.reverse_cons,List.dropWhile_append]
 cases h:List.dropWhile (fun x=>x == 32) l.reverse with
 | nil =>
  simp only [List.isEmpty_nil,if_true,List.reverse_nil]
  by_cases hc:c = 32
  ·simp [hc]
  ·simp [List.dropWhile_cons,hc]
 | cons a r =>
  simp only [List.isEmpty_cons,Bool.false_eq_true,if_false,List.reverse_append,List.reverse_cons,List.reverse_nil,List.nil_append,List.cons_append]
  rw [if_neg (by simp)]
theorem trimL_blank (m:BS):Lib.trimLeftB (32 :: m) 32 = Lib.trimLeftB m 32:=rfl
theorem trimL_other {c:UInt8} (hc:c ≠ 32) (m:BS):Lib.trimLeftB (c :: m) 32 = c :: m:=by
 unfold Lib.trimLeftB
 rw [List.dropWhile_cons]
 simp [hc]
theorem trim_comm:∀ s:BS,Lib.trimB s 32 = Lib.trimRightB (Lib.trimLeftB s 32) 32
 | []=>rfl
 | c :: l=>by
  have ih:=trim_comm l
  unfold Lib.trimB at ih ⊢
  rw [trimR_cons]
  by_cases hc:c = 32
  ·subst hc
   rw [trimL_blank l,← ih]
   by_cases h:Lib.trimRightB l 32 = []
   ·rw [if_pos h,if_pos rfl,h]
   ·rw [if_neg h,trimL_blank]
  ·rw [trimL_other hc l,trimR_cons]
   by_cases h:Lib.trimRightB l 32 = []
   ·rw [if_pos h,if_neg hc,trimL_other hc]
   ·rw [if_neg h,trimL_other hc]
theorem trimR_snoc (l:BS) (c:UInt8):Lib.trimRightB (l ++ [c]) 32 = if c = 32 then Lib.trimRightB l 32 else l ++ [c]:=by
 unfold Lib.trimRightB
 rw [List.reverse_append]
 by_cases h:c = 32
 ·simp [h]
 ·simp [List.dropWhile_cons,h]
theorem trimR_id {l:BS} (h:∀ p c,l = p ++ [c] → c ≠ 32):Lib.trimRightB l 32 = l:=by
 rcases List.eq_nil_or_concat l with rfl | ⟨p,c,rfl⟩
 ·rfl
 ·rw [List.concat_eq_append] at h ⊢
  rw [trimR_snoc,if_neg (h p c rfl)]
theorem quo_test (s:BS):(bif (!(s == [])) then (bif ((((s)[Int.toNat 0]?.getD 0).toNat:Int) == 34) then true else ((((s)[Int.toNat 0]?.getD 0).toNat:Int) == 39)) else false) = true ↔ ∃ c r,s = c :: r ∧ (c = 34 ∨ c = 39):=by
 cases s with
 | nil=>simp
 | cons c r =>
  have h:((c :: r)[Int.toNat 0]?.getD 0) = c:=rfl
  rw [h,b34,b39]
  by_cases h1:c = 34
  ·subst h1; simp
  ·by_cases h2:c = 39
   ·subst h2; simp
   ·simp [h1,h2]
def kEx:BS:=[101,120,112,111,114,116,32]
theorem hd_test (s:BS):Lib.hasPrefix s [32] = decide (s.head? = some 32):=by
 unfold Lib.hasPrefix
 rw [Bool.eq_iff_iff,decide_eq_true_eq]
 cases s with
 | nil=>simp [List.isPrefixOf]
 | cons c r=>simp only [List.isPrefixOf,Bool.and_true,beq_iff_eq,List.head?_cons,Option.some.injEq]; exact ⟨Eq.symm,Eq.symm⟩
end Go.Proofs.YtibgdilkodjojaaDoor.M
