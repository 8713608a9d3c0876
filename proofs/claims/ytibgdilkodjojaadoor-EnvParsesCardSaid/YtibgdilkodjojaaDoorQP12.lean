import Derived.Test.YtibgdilkodjojaaDoorQM12
import Derived.Test.YtibgdilkodjojaaDoorQLoop
import Derived.Test.YtibgdilkodjojaaDoorQStr
import Derived.Test.YtibgdilkodjojaaDoorQRxShelf
set_option linter.all false
namespace Go.Proofs.YtibgdilkodjojaaDoor.M
open Go Go.Proofs.YtibgdilkodjojaaDoor.RX Go.Proofs.YtibgdilkodjojaaDoor.PL
set_option maxRecDepth 100000
def good (c:UInt8):Bool:=decide (32 ≤ c.toNat) && c.toNat != 127
theorem ok_good:∀ c:UInt8,quote_ok (c.toNat:Int) = good c:=byte_all (by decide +kernel)
theorem Good_good:∀ c:UInt8,ref06_Good (c.toNat:Int) = good c:=byte_all (by decide +kernel)
theorem b34 (c:UInt8):((c.toNat:Int) == 34) = decide (c = 34):=beq_byte c 34 (by decide)
theorem b92 (c:UInt8):((c.toNat:Int) == 92) = decide (c = 92):=beq_byte c 92 (by decide)
theorem b10 (c:UInt8):((c.toNat:Int) == 10) = decide (c = 10):=beq_byte c 10 (by decide)
theorem b39 (c:UInt8):((c.toNat:Int) == 39) = decide (c = 39):=beq_byte c 39 (by decide)
theorem b32 (c:UInt8):((c.toNat:Int) == 32) = decide (c = 32):=beq_byte c 32 (by decide)
theorem b35 (c:UInt8):((c.toNat:Int) == 35) = decide (c = 35):=beq_byte c 35 (by decide)
theorem b110 (c:UInt8):((c.toNat:Int) == 110) = decide (c = 110):=beq_byte c 110 (by decide)
theorem b116 (c:UInt8):((c.toNat:Int) == 116) = decide (c = 116):=beq_byte c 116 (by decide)
theorem b120 (c:UInt8):((c.toNat:Int) == 120) = decide (c = 120):=beq_byte c 120 (by decide)
theorem beq_bytes (c d:UInt8):((c.toNat:Int) == (d.toNat:Int)) = (c == d):=by
 rw [Bool.eq_iff_iff,beq_iff_eq,beq_iff_eq,← UInt8.toNat_inj]
 omega
theorem byte_eq (c d:UInt8):decide (c = d) = (c == d):=by
 rw [Bool.eq_iff_iff]; simp
theorem k3:∀ c:UInt8,name_Variable_1 (c.toNat:Int) = !(bif (bif (ref02_Kind (c.toNat:Int) == 0) then true else decide (ref02_Kind (c.toNat:Int) > 4)) then true else (ref02_Kind (c.toNat:Int) == 3)):=byte_all (by decide +kernel)
theorem k4:∀ c:UInt8,name_Variable_2 (c.toNat:Int) = !(bif (ref02_Kind (c.toNat:Int) == 0) then true else decide (ref02_Kind (c.toNat:Int) > 4)):=byte_all (by decide +kernel)
def isName (p q:UInt8 → Bool):BS → Bool
 | []=>false
 | c :: s=>decide (s.length < 24) && p c && s.all q
theorem findSome_anyF {α:Type} (p:α → Bool):∀ l:List α,l.findSome? (fun x=>if p x = true then some false else none) = if l.any p = true then some false else none
 | []=>rfl
 | x :: l=>by rw [List.findSome?_cons,List.any_cons,findSome_anyF p l]; cases p x <;> simp
theorem any_not {α:Type} (p:α → Bool) (l:List α):l.any (fun x=>!p x) = !l.all p:=by induction l <;> simp_all
theorem kind_impl (n:Nat) (L:List UInt8 → Nat → Int → Option (Sum Unit Bool)) (p q:UInt8 → Bool) (s:BS) (hn:100 ≤ n)
  (hs:∀ k i (h:i < s.length),L s (k + 1) (i:Int) = if (!(q s[i])) = true then some (.inr false) else L s k (IntKind.wrap .i64 ((i:Int) + 1)))
  (he:∀ k,L s (k + 1) (s.length:Int) = some (.inl ())) :
  (if ((!((bif (decide ((List.length s:Int) < 1)) then true else (decide ((List.length s:Int) > 24))) == false) || decide (0 ≤ (0:Int) ∧ (0:Int) < (List.length s:Int)))) = true then (lett ((bif (bif (decide ((List.length s:Int) < 1)) then true else (decide ((List.length s:Int) > 24))) then true else (!(p ((s)[Int.toNat 0]?.getD 0)))):Bool) fun x1 =>
   if x1 = true then some false
   else ((L s n 1).bind fun o2=>(Sum.elim (fun _=>some true) (fun o2=>some o2)) o2)) else none) = some (isName p q s):=by
 cases s with
 | nil=>simp [lett,isName]
 | cons c t =>
  have e1:decide ((List.length (c :: t):Int) < 1) = false:=decide_eq_false (by simp; omega)
  have e2:decide (0 ≤ (0:Int) ∧ (0:Int) < (List.length (c :: t):Int)) = true:=decide_eq_true (by rw [List.length_cons]; omega)
  simp only [e1,e2,cond_false,Bool.or_true,if_true,Int.toNat_zero,List.getElem?_cons_zero,Option.getD_some,lett]
  by_cases h:t.length < 24
  ·have e3:decide ((List.length (c :: t):Int) > 24) = false:=decide_eq_false (by simp; omega)
   simp only [e3,cond_false,isName,decide_eq_true h,Bool.true_and]
   have:=scanL (L:=L (c :: t)) (c :: t) (fun x=>if (!q x) = true then some false else none) 1 (by simp; omega)
    (fun k i hi _=>by rw [hs k i hi]; cases q (c :: t)[i] <;> rfl) he n 1 (by omega) (by simp) (by simp; omega)
   rw [show (1:Int) = ((1:Nat):Int) from rfl,this,List.drop_one,List.tail_cons,findSome_anyF,any_not]
   cases p c <;> cases t.all q <;> rfl
  ·have e3:decide ((List.length (c :: t):Int) > 24) = true:=decide_eq_true (by simp; omega)
   rw [e3,isName,decide_eq_false h]; rfl
theorem kind_ref (n:Nat) (L:List UInt8 → Nat → Int → Option (Sum Unit Bool)) (p q:UInt8 → Bool) (s:BS) (hn:100 ≤ n)
  (h0:∀ k c t,s = c :: t → L s (k + 1) 0 = if (!(p c)) = true then some (.inr false) else L s k 1)
  (hs:∀ k i (h:i < s.length),1 ≤ i → L s (k + 1) (i:Int) = if (!(q s[i])) = true then some (.inr false) else L s k (IntKind.wrap .i64 ((i:Int) + 1)))
  (he:∀ k,L s (k + 1) (s.length:Int) = some (.inl ())) :
  (if (bif (decide ((List.length s:Int) < 1)) then true else (decide ((List.length s:Int) > 24))) = true then some false
   else ((L s n 0).bind fun o1=>(Sum.elim (fun _=>some true) (fun o1=>some o1)) o1)) = some (isName p q s):=by
 cases s with
 | nil=>simp [isName]
 | cons c t =>
  have e1:decide ((List.length (c :: t):Int) < 1) = false:=decide_eq_false (by simp; omega)
  simp only [e1,cond_false]
  by_cases h:t.length < 24
  ·have e3:decide ((List.length (c :: t):Int) > 24) = false:=decide_eq_false (by simp; omega)
   rw [e3,isName,decide_eq_true h,Bool.true_and,if_neg Bool.false_ne_true]
   obtain ⟨m,rfl⟩:∃ m,n = m + 1:=⟨n - 1,by omega⟩
   rw [h0 m c t rfl]
   have:=scanL (L:=L (c :: t)) (c :: t) (fun x=>if (!q x) = true then some false else none) 1 (by simp; omega)
    (fun k i hi h1=>by rw [hs k i hi h1]; cases q (c :: t)[i] <;> rfl) he m 1 (by omega) (by simp) (by simp; omega)
   rw [show (1:Int) = ((1:Nat):Int) from rfl,this,List.drop_one,List.tail_cons,findSome_anyF,any_not]
   cases p c <;> cases t.all q <;> rfl
  ·have e3:decide ((List.length (c :: t):Int) > 24) = true:=decide_eq_true (by simp; omega)
   rw [e3,isName,decide_eq_false h]; rfl
def va1 (c:UInt8):=name_Variable_1 (c.toNat:Int)
def va2 (c:UInt8):=name_Variable_2 (c.toNat:Int)
theorem i0 {i:Nat} (h:1 ≤ i):((i:Int) == 0) = false:=by rw [beq_eq_false_iff_ne]; omega
theorem name_Variable_eq (n:Nat) (s:BS) (hn:100 ≤ n):name_Variable n s = some (isName va1 va2 s):=by
 have h:name_of__name_Variable_1__name_Variable_2 n s = some (isName va1 va2 s):=kind_impl n (name_of__name_Variable_1__name_Variable_2_l1 n) va1 va2 s hn (fun k i h=>by rw [name_of__name_Variable_1__name_Variable_2_l1,if_pos (lt_i h),if_pos (in_i h),at_i h]; rfl) (fun k=>by rw [name_of__name_Variable_1__name_Variable_2_l1,nlt_n]; rfl)
 unfold name_Variable
 rw [h]; rfl
theorem z_in (c:UInt8) (t:BS):decide (0 ≤ (0:Int) ∧ (0:Int) < (List.length (c :: t):Int)) = true ∧ decide ((0:Int) < (List.length (c :: t):Int)) = true:=⟨decide_eq_true (by rw [List.length_cons]; omega),decide_eq_true (by rw [List.length_cons]; omega)⟩
theorem ref02_Variable_eq (n:Nat) (s:BS) (hn:100 ≤ n):ref02_Variable n s = some (isName va1 va2 s):=by
 unfold ref02_Variable
 exact kind_ref n (ref02_Variable_l1 n) va1 va2 s hn (fun k c t e=>by
   subst e
   rw [ref02_Variable_l1,(z_in c t).1,(z_in c t).2]
   simp only [if_true,Int.toNat_zero,List.getElem?_cons_zero,Option.getD_some,lett,va1,k3,Bool.not_not,beq_self_eq_true,cond_true,show IntKind.wrap .i64 ((0:Int) + 1) = 1 from by decide])
  (fun k i h h1=>by
   rw [ref02_Variable_l1,if_pos (lt_i h),if_pos (in_i h),at_i h]
   simp only [lett,va2,k4,Bool.not_not,i0 h1,cond_false]
   cases (bif (ref02_Kind (s[i].toNat:Int) == 0) then true else decide (ref02_Kind (s[i].toNat:Int) > 4)) <;> rfl)
  (fun k=>by rw [ref02_Variable_l1,nlt_n]; rfl)
theorem fits9 {a b:Nat} (h:a + b ≤ 1000000000):decide ((a + b) * (1 + 1) ≤ limit) = true:=decide_eq_true (by show (a + b) * (1 + 1) ≤ 140737488355328; omega)
def hexv (c:UInt8):Option Nat:=if 48 ≤ c.toNat ∧ c.toNat ≤ 57 then some (c.toNat - 48) else if 97 ≤ c.toNat ∧ c.toNat ≤ 102 then some (c.toNat - 87) else if 65 ≤ c.toNat ∧ c.toNat ≤ 70 then some (c.toNat - 55) else none
theorem hexv_lt:∀ (c:UInt8) (v:Nat),hexv c = some v → v < 16:=by
 intro c v h
 unfold hexv at h
 repeat' split at h
 all_goals first | (cases h; done) | (cases h; omega)
def hv (c:UInt8):Int:=match hexv c with | some v=>v | none=>16
def hb (c:UInt8):Int × Bool:=match hexv c with | some v=>(v,true) | none=>(0,false)
theorem hq:∀ c:UInt8,quote_hex (c.toNat:Int) = hb c:=byte_all (by decide +kernel)
theorem pairq:∀ v:Nat,v < 16 → ∀ w:Nat,w < 16 → (IntKind.wrap .u8 ((BitVec.ofInt (IntKind.bits .u8) (IntKind.wrap .u8 ((v:Int) * 2 ^ (min (Int.toNat 4) (IntKind.bits .u8)))) ||| BitVec.ofInt (IntKind.bits .u8) (w:Int)).toNat)) = (((UInt8.ofNat (v * 16 + w)).toNat:Nat):Int):=by decide +kernel
def uesc:List UInt8 → Option (UInt8 × Nat)
 | []=>none
 | d :: r =>
  if d = 92 ∨ d = 34 then some (d,2) else if d = 110 then some (10,2) else if d = 116 then some (9,2)
  else if d = 120 then (match r with | x :: y :: _=>(match hexv x,hexv y with | some v,some w=>some (UInt8.ofNat (v * 16 + w),4) | _,_=>none) | _=>none) else none
def ures (o:Option (UInt8 × Nat)):Int × Int:=match o with | some (b,l)=>((b.toNat:Int),(l:Int)) | none=>(0,0)
theorem escape_eq (n:Nat) (x:UInt8) (t:List UInt8):quote_escape n (x :: t) = some (ures (uesc t)):=by
 unfold quote_escape
 cases t with
 | nil=>rfl
 | cons d r =>
  have h2:decide ((List.length (x :: d :: r):Int) < 2) = false:=decide_eq_false (by simp only [List.length_cons]; omega)
  have h1:decide (0 ≤ (1:Int) ∧ (1:Int) < (List.length (x :: d :: r):Int)) = true:=decide_eq_true (by simp only [List.length_cons]; omega)
  have g1:((x :: d :: r)[Int.toNat 1]?.getD 0) = d:=rfl
  rw [h2,if_neg Bool.false_ne_true,if_pos h1,g1]
  unfold quote_escape_j1 quote_escape_j2
  rw [b92,b34,b110,b116,b120,h1,g1]
  unfold uesc
  by_cases c92:d = 92
  ·subst c92; rfl
  ·by_cases c34:d = 34
   ·subst c34; rfl
   ·by_cases c110:d = 110
    ·subst c110; rfl
    ·by_cases c116:d = 116
     ·subst c116; rfl
     ·by_cases c120:d = 120
      ·subst c120
       cases r with
       | nil=>rfl
       | cons y r =>
        cases r with
        | nil=>rfl
        | cons z r =>
         have h4:decide ((List.length (x :: 120 :: y :: z :: r):Int) < 4) = false:=decide_eq_false (by simp only [List.length_cons]; omega)
         have i2:decide (0 ≤ (2:Int) ∧ (2:Int) < (List.length (x :: 120 :: y :: z :: r):Int)) = true:=decide_eq_true (by simp only [List.length_cons]; omega)
         have i3:decide (0 ≤ (3:Int) ∧ (3:Int) < (List.length (x :: 120 :: y :: z :: r):Int)) = true:=decide_eq_true (by simp only [List.length_cons]; omega)
         have g2:((x :: 120 :: y :: z :: r)[Int.toNat 2]?.getD 0) = y:=rfl
         have g3:((x :: 120 :: y :: z :: r)[Int.toNat 3]?.getD 0) = z:=rfl
         rw [h4,i2,i3,g2,g3]
         simp only [lett,hq,hb]
         cases hy:hexv y with
         | none=>simp [ures]
         | some v =>
          cases hz:hexv z with
          | none=>simp [ures]
          | some w =>
           have:=pairq v (hexv_lt _ _ hy) w (hexv_lt _ _ hz)
           simp only [this]
           simp [ures]
      ·simp [c92,c34,c110,c116,c120,ures]
theorem uesc_len {t:List UInt8} {b:UInt8} {l:Nat} (h:uesc t = some (b,l)):2 ≤ l ∧ l ≤ 4 ∧ l ≤ t.length + 1:=by
 cases t with
 | nil=>cases h
 | cons d r =>
  cases r with
  | nil =>
   simp only [uesc] at h
   repeat' split at h
   all_goals first | (cases h; done) | (cases h; simp only [List.length_cons]; omega)
  | cons y r =>
   cases r with
   | nil =>
    simp only [uesc] at h
    repeat' split at h
    all_goals first | (cases h; done) | (cases h; simp only [List.length_cons]; omega)
   | cons z r =>
    simp only [uesc] at h
    repeat' split at h
    all_goals first | (cases h; done) | (cases h; simp only [List.length_cons]; omega)
theorem byte_rt (b:UInt8):decide (0 ≤ (b.toNat:Int) ∧ (b.toNat:Int) < 256) = true ∧ UInt8.ofNat (Int.toNat (b.toNat:Int)) = b:=by
 have:=b.toNat_lt
 refine ⟨decide_eq_true (by omega),?_⟩
 simp
theorem q34 (n k:Nat) (s acc:List UInt8) (i:Nat) (hs:s.length ≤ 100000000) (ha:acc.length ≤ 100000000) (h:i < s.length):quote_Scan_l1 n s 34 (k + 1) (i:Int) acc =
  if good s[i] = false then some (.inl ()) else if s[i] = 34 then some (.inr (acc,((i + 1:Nat):Int),0))
  else if s[i] = 92 then (match uesc (s.drop (i + 1)) with | none=>some (.inr ([],0,3)) | some (b,l)=>quote_Scan_l1 n s 34 k ((i + l:Nat):Int) (acc ++ [b]))
  else quote_Scan_l1 n s 34 k ((i + 1:Nat):Int) (acc ++ [s[i]]):=by
 rw [quote_Scan_l1]
 have hle:decide (0 ≤ (i:Int) ∧ (i:Int) ≤ (List.length s:Int)) = true:=decide_eq_true (by omega)
 have hf:∀ b:UInt8,decide ((List.length acc + List.length [b]) * (1 + 1) ≤ limit) = true:=fun b=>fits9 (by simp; omega)
 have e39:∀ c:UInt8,(bif ((c.toNat:Int) == 39) then ((34:Int) == (c.toNat:Int)) else false) = false:=byte_all (by decide +kernel)
 have hdrop:List.drop (Int.toNat (i:Int)) s = s[i] :: s.drop (i + 1):=drop_at h
 have hesc:=escape_eq n s[i] (s.drop (i + 1))
 simp only [in_i h,lt_i h,at_i h,ok_good,e39,lett,hle,hdrop,hesc,b34,b92,wrap_s i (by omega),hf,Bool.or_true,if_true,cond_true,cond_false,Option.bind_some]
 cases hg:good s[i] with
 | false=>simp
 | true =>
  by_cases c34:s[i] = 34
  ·simp [c34]
  ·by_cases c92:s[i] = 92
   ·cases hu:uesc (s.drop (i + 1)) with
    | none=>simp [c92,ures]
    | some p =>
     obtain ⟨b,l⟩:=p
     have hl:=uesc_len hu
     have hw:IntKind.wrap .i64 ((i:Int) + (l:Int)) = ((i + l:Nat):Int):=PL.wrap_add _ _ (by omega)
     have hl0:((l:Int) == 0) = false:=by rw [beq_eq_false_iff_ne]; omega
     obtain ⟨r1,r2⟩:=byte_rt b
     generalize hJ:((i + l:Nat):Int) = J at hw
     generalize quote_Scan_l1 n s 34 k = f
     simp only [c92]
     have e2:¬ ((92:UInt8) = 34):=by decide
     have e1:¬ (decide ((92:UInt8) = 34) = true):=by decide
     have e3:∀ q:Bool,((!false == true || q)) = true:=fun _=>rfl
     have e4:(bif decide True then (34:Int) == 34 else false) = true:=rfl
     have e5:¬ (true = false):=by decide
     rw [if_neg e5,if_neg e2,if_pos trivial,if_pos trivial,if_pos (e3 _),if_neg Bool.false_ne_true,if_neg e1,if_pos e4]
     refine (if_neg (show ¬ (((l:Int) == 0) = true) from by rw [hl0]; exact Bool.false_ne_true)).trans ?_
     refine (if_pos r1).trans ?_
     show f (IntKind.wrap .i64 ((i:Int) + (l:Int))) (acc ++ [UInt8.ofNat (Int.toNat (b.toNat:Int))]) = _
     rw [hw,r2,hJ]
   ·simp [c34,c92]
theorem q39 (n k:Nat) (s acc:List UInt8) (i:Nat) (hs:s.length ≤ 100000000) (ha:acc.length ≤ 100000000) (h:i < s.length):quote_Scan_l1 n s 39 (k + 1) (i:Int) acc =
  if good s[i] = false then some (.inl ()) else if s[i] = 39 then (if (if h':i + 1 < s.length then s[i + 1] == 39 else false) = true then quote_Scan_l1 n s 39 k ((i + 2:Nat):Int) (acc ++ [39]) else some (.inr (acc,((i + 1:Nat):Int),0)))
  else quote_Scan_l1 n s 39 k ((i + 1:Nat):Int) (acc ++ [s[i]]):=by
 rw [quote_Scan_l1]
 have hf:∀ b:UInt8,decide ((List.length acc + List.length [b]) * (1 + 1) ≤ limit) = true:=fun b=>fits9 (by simp; omega)
 have e39:∀ c:UInt8,(bif ((c.toNat:Int) == 39) then ((39:Int) == (c.toNat:Int)) else false) = decide (c = 39):=byte_all (by decide +kernel)
 have e92:∀ c:UInt8,(bif ((c.toNat:Int) == 92) then ((39:Int) == 34) else false) = false:=byte_all (by decide +kernel)
 simp only [in_i h,lt_i h,at_i h,ok_good,e39,e92,lett,b39,wrap_s i (by omega),wrap_s2 i (by omega),hf,Bool.or_true,if_true,cond_true]
 cases hg:good s[i] with
 | false=>simp
 | true =>
  by_cases c39:s[i] = 39
  ·by_cases h':i + 1 < s.length
   ·have l1:decide (((i + 1:Nat):Int) < (s.length:Int)) = true:=lt_i h'
    have i1:=in_i h'
    have g1:=at_i (d:=(0:UInt8)) h'
    generalize ((i + 1:Nat):Int) = J at l1 i1 g1
    cases hx:s[i + 1] == 39 with
    | true=>simp only [c39,l1,i1,g1,dif_pos h',hx,beq_bytes]; simp [hx]
    | false=>simp only [c39,l1,i1,g1,dif_pos h',hx,beq_bytes]; simp [hx]
   ·have l1:decide (((i + 1:Nat):Int) < (s.length:Int)) = false:=nlt_i (Nat.not_lt.1 h')
    generalize ((i + 1:Nat):Int) = J at l1
    simp only [c39,l1,dif_neg h']; simp
  ·simp [c39]
theorem q_end (n k:Nat) (s acc:List UInt8) (v:Int) (i:Nat) (h:s.length ≤ i):quote_Scan_l1 n s v (k + 1) (i:Int) acc = some (.inl ()):=by
 rw [quote_Scan_l1]
 simp only [nlt_i h]
 simp
def finq (r:Sum Unit (List UInt8 × Int × Int)):List UInt8 × Int × Int:=match r with | .inl _=>([],0,3) | .inr o=>o
theorem hr:∀ c:UInt8,ref06_value (c.toNat:Int) = hv c:=byte_all (by decide +kernel)
theorem pairr:∀ v:Nat,v < 16 → ∀ w:Nat,w < 16 → (IntKind.wrap .u8 ((IntKind.wrap .i64 ((IntKind.wrap .i64 ((v:Int) * 16)) + (w:Int))))) = (((UInt8.ofNat (v * 16 + w)).toNat:Nat):Int):=by decide +kernel
theorem r34 (n k:Nat) (s acc:List UInt8) (i:Nat) (hs:s.length ≤ 100000) (ha:acc.length ≤ 100000) (h:i < s.length):ref06_double_l1 n s (k + 1) (i:Int) acc =
  if good s[i] = false then some (.inr ([],0,false)) else if s[i] = 34 then some (.inr (acc,((i + 1:Nat):Int),true))
  else if s[i] = 92 then (match uesc (s.drop (i + 1)) with | none=>some (.inr ([],0,false)) | some (b,l)=>ref06_double_l1 n s k ((i + l:Nat):Int) (acc ++ [b]))
  else ref06_double_l1 n s k ((i + 1:Nat):Int) (acc ++ [s[i]]):=by
 rw [ref06_double_l1]
 have hf:∀ b:UInt8,decide ((List.length acc + List.length [b]) * (1 + 1) ≤ limit) = true:=fun b=>fits (by simp; omega)
 have e92:((s[i].toNat:Int) != 92) = !(decide (s[i] = 92)):=by rw [← b92]; rfl
 have w3:IntKind.wrap .i64 ((i:Int) + 3) = ((i + 3:Nat):Int):=PL.wrap_add i 3 (by omega)
 have w4:IntKind.wrap .i64 ((i:Int) + 4) = ((i + 4:Nat):Int):=PL.wrap_add i 4 (by omega)
 rw [if_pos (lt_i h),if_pos (in_i h),at_i h,Good_good,b34,e92,hf,hf,wrap_s i (by omega),wrap_s2 i (by omega),w3,w4]
 cases hg:good s[i] with
 | false=>simp
 | true =>
  by_cases c34:s[i] = 34
  ·simp [c34]
  ·by_cases c92:s[i] = 92
   ·simp only [c34,c92,decide_true,decide_false,Bool.not_true,Bool.false_eq_true,if_false,if_true,Bool.true_eq_false]
    by_cases h1:i + 1 < s.length
    ·have n1:decide (((i + 1:Nat):Int) ≥ (s.length:Int)) = false:=decide_eq_false (by omega)
     have i1:=in_i h1
     have g1:=at_i (d:=(0:UInt8)) h1
     have hd1:=drop_at h1
     rw [n1,i1,g1,hd1]
     generalize s[i + 1] = d
     simp only [lett,b92,b34,b110,b116,b120,hf]
     unfold uesc
     by_cases d92:d = 92
     ·subst d92; simp
     ·by_cases d34:d = 34
      ·subst d34; simp
      ·by_cases d110:d = 110
       ·subst d110; simp
       ·by_cases d116:d = 116
        ·subst d116; simp
        ·by_cases d120:d = 120
         ·subst d120
          by_cases h3:i + 3 < s.length
          ·have h2:i + 2 < s.length:=by omega
           have l3:decide (((i + 3:Nat):Int) < (s.length:Int)) = true:=lt_i h3
           have i2:=in_i h2
           have i3:=in_i h3
           have g2:=at_i (d:=(0:UInt8)) h2
           have g3:=at_i (d:=(0:UInt8)) h3
           have hd2:=drop_at h2
           have hd3:=drop_at h3
           rw [l3,i2,i3,g2,g3,hd2,hd3]
           generalize s[i + 2] = y
           generalize s[i + 3] = z
           simp only [hr,hv]
           cases hy:hexv y with
           | none=>simp
           | some v =>
            have v16:=hexv_lt _ _ hy
            have vd:decide ((v:Int) < 16) = true:=decide_eq_true (by omega)
            cases hz:hexv z with
            | none=>simp [vd]
            | some w =>
             have w16:=hexv_lt _ _ hz
             have wd:decide ((w:Int) < 16) = true:=decide_eq_true (by omega)
             obtain ⟨r1,r2⟩:=byte_rt (UInt8.ofNat (v * 16 + w))
             simp only [vd,wd,pairr v v16 w w16,r1,r2,hf]
             simp
          ·have l3:decide (((i + 3:Nat):Int) < (s.length:Int)) = false:=nlt_i (Nat.not_lt.1 h3)
           rw [l3]
           have hnone:(match s.drop (i + 1 + 1) with | x :: y :: _=>(match hexv x,hexv y with | some v,some w=>some (UInt8.ofNat (v * 16 + w),4) | _,_=>none) | _=>(none:Option (UInt8 × Nat))) = none:=by
            have hl:(s.drop (i + 1 + 1)).length ≤ 1:=by simp; omega
            match s.drop (i + 1 + 1),hl with
            | [],_=>rfl
            | [_],_=>rfl
           simp only [hnone]
           simp
         ·simp [d92,d34,d110,d116,d120]
    ·have n1:decide (((i + 1:Nat):Int) ≥ (s.length:Int)) = true:=decide_eq_true (by omega)
     rw [n1,List.drop_eq_nil_of_le (by omega)]
     simp [uesc]
   ·simp [c34,c92]
theorem r39 (n k:Nat) (s acc:List UInt8) (i:Nat) (hs:s.length ≤ 100000) (ha:acc.length ≤ 100000) (h:i < s.length):ref06_single_l1 n s (k + 1) (i:Int) acc =
  if good s[i] = false then some (.inr ([],0,false)) else if s[i] = 39 then (if (if h':i + 1 < s.length then s[i + 1] == 39 else false) = true then ref06_single_l1 n s k ((i + 2:Nat):Int) (acc ++ [39]) else some (.inr (acc,((i + 1:Nat):Int),true)))
  else ref06_single_l1 n s k ((i + 1:Nat):Int) (acc ++ [s[i]]):=by
 rw [ref06_single_l1]
 have hf:∀ b:UInt8,decide ((List.length acc + List.length [b]) * (1 + 1) ≤ limit) = true:=fun b=>fits (by simp; omega)
 rw [if_pos (lt_i h),if_pos (in_i h),at_i h,Good_good,b39]
 cases hg:good s[i] with
 | false=>simp
 | true =>
  unfold ref06_single_j2
  rw [wrap_s i (by omega)]
  by_cases c39:s[i] = 39
  ·by_cases h':i + 1 < s.length
   ·have n1:decide (((i + 1:Nat):Int) ≥ (s.length:Int)) = false:=decide_eq_false (by omega)
    have i1:=in_i h'
    have g1:=at_i (d:=(0:UInt8)) h'
    have w2:IntKind.wrap .i64 (((i + 1:Nat):Int) + 1) = ((i + 2:Nat):Int):=wrap_s (i + 1) (by omega)
    have e39:((s[i + 1].toNat:Int) != 39) = !(s[i + 1] == 39):=by rw [← byte_eq,← b39]; rfl
    generalize ((i + 1:Nat):Int) = J at n1 i1 g1 w2
    cases hx:s[i + 1] == 39 with
    | true =>
     have hx':s[i + 1] = 39:=by simpa using hx
     have i1p:=of_decide_eq_true i1
     rw [hx'] at g1
     have g1':=g1
     generalize ((i + 2:Nat):Int) = J2 at w2 ⊢
     have h39:((39:UInt8).toNat:Int) = 39:=rfl
     have hfit:=of_decide_eq_true (hf 39)
     simp only [c39,n1,i1,g1,dif_pos h',hx',lett,w2,hf]
     simp [i1p,g1,w2,h',hx',h]
     have hb:J.toNat < s.length:=by omega
     have:s[J.toNat] = 39:=by simpa [hb] using g1
     rw [this]
    | false=>simp only [c39,n1,i1,g1,e39,hx,dif_pos h',lett]; simp [h]
   ·have n1:decide (((i + 1:Nat):Int) ≥ (s.length:Int)) = true:=decide_eq_true (by omega)
    generalize ((i + 1:Nat):Int) = J at n1
    simp only [c39,n1,dif_neg h',lett]; simp [h]
  ·have i0:=in_i h
   have g0:=at_i (d:=(0:UInt8)) h
   have w0:=wrap_s i (by omega)
   generalize (i:Int) = I at i0 g0 w0
   generalize ((i + 1:Nat):Int) = J at w0
   have i0p:=of_decide_eq_true i0
   simp only [c39,i0,g0,w0,hf]; simp [i0p,g0,w0]
   have hb:I.toNat < s.length:=by omega
   have:s[I.toNat] = s[i]:=by simpa [hb] using g0
   rw [this]
def Nx (s:List UInt8) (i:Nat) (o:List UInt8 × Int × Int):Prop:=o.2.2 = 0 → ∃ j:Nat,o.2.1 = (j:Int) ∧ i < j ∧ j ≤ s.length ∧ (s[j - 1]?.getD 0) ≠ 32
theorem Nx.le {s:List UInt8} {i i':Nat} {o:List UInt8 × Int × Int} (h:Nx s i' o) (hi:i ≤ i'):Nx s i o:=fun e=>let ⟨j,h1,h2,h3,h4⟩:=h e; ⟨j,h1,by omega,h3,h4⟩
def finr (r:Sum Unit (List UInt8 × Int × Bool)):List UInt8 × Int × Int:=match r with | .inl _=>([],0,3) | .inr o=>if o.2.2 = false then ([],0,3) else (o.1,o.2.1,0)
theorem scan34 (n:Nat) (s:List UInt8) (hs:s.length ≤ 10000):∀ (k i:Nat) (acc:List UInt8),s.length < k + i → acc.length ≤ i → ∃ r r',quote_Scan_l1 n s 34 (k + 1) (i:Int) acc = some r ∧ ref06_double_l1 n s (k + 1) (i:Int) acc = some r' ∧ finq r = finr r' ∧ Nx s i (finq r)
 | k,i,acc,h1,h2=>by
  by_cases h:i < s.length
  ·rw [q34 n k s acc i (by omega) (by omega) h,r34 n k s acc i (by omega) (by omega) h]
   obtain ⟨k,rfl⟩:∃ k',k = k' + 1:=⟨k - 1,by omega⟩
   cases hg:good s[i] with
   | false=>exact ⟨_,_,if_pos rfl,if_pos rfl,rfl,fun e=>by cases e⟩
   | true =>
    simp only [Bool.true_eq_false,if_false]
    by_cases c34:s[i] = 34
    ·rw [if_pos c34,if_pos c34]; exact ⟨_,_,rfl,rfl,rfl,fun _=>⟨i + 1,rfl,by omega,by omega,by simp [h,c34]⟩⟩
    ·rw [if_neg c34,if_neg c34]
     by_cases c92:s[i] = 92
     ·rw [if_pos c92,if_pos c92]
      cases hu:uesc (s.drop (i + 1)) with
      | none=>exact ⟨_,_,rfl,rfl,rfl,fun e=>by cases e⟩
      | some p =>
       obtain ⟨b,l⟩:=p
       have hl:=uesc_len hu
       obtain ⟨r,r',h3,h4,h5,h6⟩:=scan34 n s hs k (i + l) (acc ++ [b]) (by omega) (by simp; omega)
       exact ⟨r,r',h3,h4,h5,h6.le (by omega)⟩
     ·rw [if_neg c92,if_neg c92]
      obtain ⟨r,r',h3,h4,h5,h6⟩:=scan34 n s hs k (i + 1) (acc ++ [s[i]]) (by omega) (by simp; omega)
      exact ⟨r,r',h3,h4,h5,h6.le (by omega)⟩
  ·refine ⟨.inl (),.inl (),q_end n k s acc 34 i (by omega),?_,rfl,fun e=>by cases e⟩
   rw [ref06_double_l1]
   simp only [nlt_i (Nat.not_lt.1 h)]; simp
 termination_by k=>k
theorem scan39 (n:Nat) (s:List UInt8) (hs:s.length ≤ 10000):∀ (k i:Nat) (acc:List UInt8),s.length < k + i → acc.length ≤ i → ∃ r r',quote_Scan_l1 n s 39 (k + 1) (i:Int) acc = some r ∧ ref06_single_l1 n s (k + 1) (i:Int) acc = some r' ∧ finq r = finr r' ∧ Nx s i (finq r)
 | k,i,acc,h1,h2=>by
  by_cases h:i < s.length
  ·rw [q39 n k s acc i (by omega) (by omega) h,r39 n k s acc i (by omega) (by omega) h]
   obtain ⟨k,rfl⟩:∃ k',k = k' + 1:=⟨k - 1,by omega⟩
   cases hg:good s[i] with
   | false=>exact ⟨_,_,if_pos rfl,if_pos rfl,rfl,fun e=>by cases e⟩
   | true =>
    simp only [Bool.true_eq_false,if_false]
    by_cases c39:s[i] = 39
    ·rw [if_pos c39,if_pos c39]
     generalize (if h':i + 1 < s.length then s[i + 1] == 39 else false) = bb
     cases bb with
     | true =>
      simp only [if_true]
      obtain ⟨r,r',h3,h4,h5,h6⟩:=scan39 n s hs k (i + 2) (acc ++ [39]) (by omega) (by simp; omega)
      exact ⟨r,r',h3,h4,h5,h6.le (by omega)⟩
     | false=>exact ⟨_,_,rfl,rfl,rfl,fun _=>⟨i + 1,rfl,by omega,by omega,by simp [h,c39]⟩⟩
    ·rw [if_neg c39,if_neg c39]
     obtain ⟨r,r',h3,h4,h5,h6⟩:=scan39 n s hs k (i + 1) (acc ++ [s[i]]) (by omega) (by simp; omega)
     exact ⟨r,r',h3,h4,h5,h6.le (by omega)⟩
  ·refine ⟨.inl (),.inl (),q_end n k s acc 39 i (by omega),?_,rfl,fun e=>by cases e⟩
   rw [ref06_single_l1]
   simp only [nlt_i (Nat.not_lt.1 h)]; simp
 termination_by k=>k
theorem scan_eq (n:Nat) (s:List UInt8) (at_:Int) (hs:s.length ≤ 10000) (hn:20000 ≤ n) (hat:IntKind.min .i64 ≤ at_ ∧ at_ ≤ IntKind.max .i64):∃ r,quote_Scan n s at_ = some r ∧ ref06_Scan n s at_ = some r ∧ Nx s at_.toNat r:=by
 obtain ⟨n,rfl⟩:∃ m,n = m + 1:=⟨n - 1,by omega⟩
 unfold quote_Scan ref06_Scan
 by_cases hin:0 ≤ at_ ∧ at_ < (s.length:Int)
 ·obtain ⟨i,rfl⟩:∃ i:Nat,at_ = (i:Int):=⟨at_.toNat,by omega⟩
  have h:i < s.length:=by omega
  have d1:decide ((i:Int) < 0) = false:=decide_eq_false (by omega)
  have d2:decide ((i:Int) ≥ (s.length:Int)) = false:=decide_eq_false (by omega)
  have n34:((s[i].toNat:Int) != 34) = !(decide (s[i] = 34)):=by rw [← b34]; rfl
  have n39:((s[i].toNat:Int) != 39) = !(decide (s[i] = 39)):=by rw [← b39]; rfl
  simp only [d1,d2,in_i h,at_i h,n34,n39,lett,wrap_s i (by omega),Bool.or_true,if_true,cond_false]
  unfold ref06_Scan_j1 ref06_double ref06_single
  simp only [b34,wrap_s i (by omega)]
  by_cases c34:s[i] = 34
  ·obtain ⟨r,r',h1,h2,h3,h5⟩:=scan34 (n + 1) s hs n (i + 1) [] (by omega) (by simp)
   rw [c34]
   have h1:quote_Scan_l1 (n + 1) s ((34:UInt8).toNat:Int) (n + 1) ((i + 1:Nat):Int) [] = some r:=h1
   simp only [h1,h2,decide_true,Bool.not_true,cond_false,Bool.false_eq_true,if_false,if_true,Option.bind_some]
   refine ⟨finq r,?_,?_,h5.le (by simp)⟩
   ·cases r <;> rfl
   ·rw [h3]
    cases r' with
    | inl _=>rfl
    | inr o=>obtain ⟨o1,o2,o3⟩:=o; cases o3 <;> rfl
  ·by_cases c39:s[i] = 39
   ·obtain ⟨r,r',h1,h2,h3,h5⟩:=scan39 (n + 1) s hs n (i + 1) [] (by omega) (by simp)
    rw [c39]
    have h1:quote_Scan_l1 (n + 1) s ((39:UInt8).toNat:Int) (n + 1) ((i + 1:Nat):Int) [] = some r:=h1
    have e1:decide ((39:UInt8) = 34) = false:=by decide
    have e2:decide ((39:UInt8) = 39) = true:=by decide
    simp only [h1,h2,e1,e2,Bool.not_true,Bool.not_false,cond_true,Bool.false_eq_true,if_false,Option.bind_some]
    refine ⟨finq r,?_,?_,h5.le (by simp)⟩
    ·cases r <;> rfl
    ·rw [h3]
     cases r' with
     | inl _=>rfl
     | inr o=>obtain ⟨o1,o2,o3⟩:=o; cases o3 <;> rfl
   ·exact ⟨([],0,2),by simp [c34,c39],by simp [c34,c39],fun e=>by cases e⟩
 ·have d:(bif (decide (at_ < 0)) then true else (decide (at_ ≥ (List.length s:Int)))) = true:=by
   by_cases h0:at_ < 0
   ·simp [h0]
   ·have:at_ ≥ (s.length:Int):=by omega
    simp [h0,this]
  exact ⟨([],0,2),by simp only [d,lett]; simp,by simp only [d,lett]; simp,fun e=>by cases e⟩
theorem trimR_cons (c:UInt8) (l:BS):Lib.trimRightB (c :: l) 32 = if Lib.trimRightB l 32 = [] then (if c = 32 then [] else [c]) else c :: Lib.trimRightB l 32:=by
 unfold Lib.trimRightB
 rw [List.reverse_cons,List.dropWhile_append]
 cases h:List.dropWhile (fun x=>x == 32) l.reverse with
 | nil =>
  simp only [List.isEmpty_nil,if_true,List.reverse_nil]
  by_cases hc:c = 32
  ·simp [hc]
  ·simp [List.dropWhile_cons,hc]
 | cons a r =>
  simp only [List.isEmpty_cons,Bool.false_eq_true,if_false,List.reverse_append,List.reverse_cons,List.reverse_nil,List.nil_append,List.cons_append]
  rw [if_neg (by simp)]
theorem trimL_blank (m:BS):Lib.trimLeftB (32 :: m) 32 = Lib.trimLeftB m 32:=rfl
theorem trimL_other {c:UInt8} (hc:c ≠ 32) (m:BS):Lib.trimLeftB (c :: m) 32 = c :: m:=by
 unfold Lib.trimLeftB
 rw [List.dropWhile_cons]
 simp [hc]
theorem trim_comm:∀ s:BS,Lib.trimB s 32 = Lib.trimRightB (Lib.trimLeftB s 32) 32
 | []=>rfl
 | c :: l=>by
  have ih:=trim_comm l
  unfold Lib.trimB at ih ⊢
  rw [trimR_cons]
  by_cases hc:c = 32
  ·subst hc
   rw [trimL_blank l,← ih]
   by_cases h:Lib.trimRightB l 32 = []
   ·rw [if_pos h,if_pos rfl,h]
   ·rw [if_neg h,trimL_blank]
  ·rw [trimL_other hc l,trimR_cons]
   by_cases h:Lib.trimRightB l 32 = []
   ·rw [if_pos h,if_neg hc,trimL_other hc]
   ·rw [if_neg h,trimL_other hc]
theorem trimR_snoc (l:BS) (c:UInt8):Lib.trimRightB (l ++ [c]) 32 = if c = 32 then Lib.trimRightB l 32 else l ++ [c]:=by
 unfold Lib.trimRightB
 rw [List.reverse_append]
 by_cases h:c = 32
 ·simp [h]
 ·simp [List.dropWhile_cons,h]
theorem trimR_len (l:BS):(Lib.trimRightB l 32).length ≤ l.length:=by
 unfold Lib.trimRightB
 rw [List.length_reverse]
 exact Nat.le_trans (List.dropWhile_sublist _).length_le (by simp)
theorem trimL_len (l:BS):(Lib.trimLeftB l 32).length ≤ l.length:=(List.dropWhile_sublist _).length_le
theorem trimB_len (l:BS):(Lib.trimB l 32).length ≤ l.length:=Nat.le_trans (trimL_len _) (trimR_len l)
theorem trimR_last (l:BS):∀ m,Lib.trimRightB l 32 = m → ∀ p c,m = p ++ [c] → c ≠ 32:=by
 rintro m rfl p c h hc
 subst hc
 unfold Lib.trimRightB at h
 have h2:List.dropWhile (fun x=>x == 32) l.reverse = 32 :: p.reverse:=by
  have:=congrArg List.reverse h
  simpa using this
 have h3:=List.head?_dropWhile_not (fun x:UInt8=>x == 32) l.reverse
 rw [h2] at h3
 simp at h3
theorem trimR_id {l:BS} (h:∀ p c,l = p ++ [c] → c ≠ 32):Lib.trimRightB l 32 = l:=by
 rcases List.eq_nil_or_concat l with rfl | ⟨p,c,rfl⟩
 ·rfl
 ·rw [List.concat_eq_append] at h ⊢
  rw [trimR_snoc,if_neg (h p c rfl)]
theorem z_inI (c:UInt8) (t:BS):decide (0 ≤ (1:Int) ∧ (1:Int) ≤ (List.length (c :: t):Int)) = true:=decide_eq_true (by rw [List.length_cons]; omega)
theorem tl1 (n:Nat):∀ (k:Nat) (s:BS),s.length < k → ref12_trim_l1 n k s = some (Lib.trimLeftB s 32)
 | 0,s,h=>by omega
 | k + 1,[],h=>rfl
 | k + 1,c :: l,h=>by
  rw [ref12_trim_l1]
  have hp:decide (((c :: l).length:Int) > 0) = true:=decide_eq_true (by rw [List.length_cons]; omega)
  have hat:((c :: l)[Int.toNat 0]?.getD 0) = c:=rfl
  rw [hp,hat,b32,(z_in c l).1,if_pos (by rfl),cond_true]
  by_cases hc:c = 32
  ·subst hc
   rw [if_pos (by rfl),if_pos (z_inI 32 l),trimL_blank]
   exact tl1 n k l (by simpa using h)
  ·rw [if_neg (by simpa using hc),trimL_other hc]
theorem tl2 (n:Nat):∀ (k:Nat) (s:BS),s.length < k → s.length ≤ 100000 → ref12_trim_l2 n k s = some (Lib.trimRightB s 32)
 | 0,s,h,_=>by omega
 | k + 1,s,h,hs=>by
  rw [ref12_trim_l2]
  rcases List.eq_nil_or_concat s with rfl | ⟨l,c,rfl⟩
  ·rfl
  ·rw [List.concat_eq_append] at h hs ⊢
   have hl:(l ++ [c]).length = l.length + 1:=by simp
   have hw:IntKind.wrap .i64 (((l ++ [c]).length:Int) - 1) = (l.length:Int):=by
    rw [hl,wrap_p _ (by omega) (by omega)]; rfl
   have hp:decide (((l ++ [c]).length:Int) > 0) = true:=decide_eq_true (by omega)
   have hat:((l ++ [c])[Int.toNat (l.length:Int)]?.getD 0) = c:=by rw [tn]; simp
   rw [hw,hp,hat,b32,if_pos (by rw [in_i (by omega:l.length < (l ++ [c]).length),Bool.or_true]),trimR_snoc]
   simp only [lett,cond_true]
   by_cases hc:c = 32
   ·rw [if_pos (decide_eq_true hc),if_pos (le_i (by omega)),if_pos hc,tn,List.take_left]
    exact tl2 n k l (by omega) (by omega)
   ·rw [if_neg (by simpa using hc),if_neg hc]
theorem rtrim12 (n:Nat) (s:BS) (hs:s.length ≤ 100000) (hn:s.length < n):ref12_trim n s = some (Lib.trimB s 32):=by
 unfold ref12_trim
 rw [tl1 n n s hn,Option.bind_some,tl2 n n _ (by have:=trimL_len s; omega) (by have:=trimL_len s; omega),trim_comm]; rfl
def ix2:BS → Option Nat
 | []=>none
 | c :: r=>if c = 32 ∧ r.head? = some 35 then some 0 else (ix2 r).map (· + 1)
theorem ix2_cons (c:UInt8) (r:BS):ix2 (c :: r) = if c = 32 ∧ r.head? = some 35 then some 0 else (ix2 r).map (· + 1):=rfl
theorem ix2_len:∀ {s:BS} {i:Nat},ix2 s = some i → i < s.length
 | [],i,h=>by cases h
 | c :: r,i,h=>by
  rw [ix2_cons] at h
  by_cases hc:c = 32 ∧ r.head? = some 35
  ·rw [if_pos hc] at h; cases h; simp
  ·rw [if_neg hc] at h
   cases hr:ix2 r with
   | none=>rw [hr] at h; cases h
   | some j=>rw [hr] at h; cases h; have:=ix2_len hr; simp; omega
theorem index2:∀ s:BS,Lib.index s [32,35] = match ix2 s with | none=>-1 | some i=>(i:Int)
 | []=>rfl
 | c :: r=>by
  unfold Lib.index
  rw [ix2_cons,index2 r]
  have hp:([32,35]:BS).isPrefixOf (c :: r) = decide (c = 32 ∧ r.head? = some 35):=by
   rw [Bool.eq_iff_iff,decide_eq_true_eq]
   cases r with
   | nil=>simp [List.isPrefixOf]
   | cons d r=>simp only [List.isPrefixOf,Bool.and_true,Bool.and_eq_true,beq_iff_eq,List.head?_cons,Option.some.injEq]; exact ⟨fun h=>⟨h.1.symm,h.2.symm⟩,fun h=>⟨h.1.symm,h.2.symm⟩⟩
  rw [hp]
  by_cases hc:c = 32 ∧ r.head? = some 35
  ·rw [if_pos hc,if_pos (decide_eq_true hc)]; rfl
  ·rw [if_neg hc,if_neg (by simpa using hc)]
   cases ix2 r with
   | none=>rfl
   | some j =>
    have hj:((j:Int) == -1) = false:=by rw [beq_eq_false_iff_ne]; omega
    simp only [hj,Option.map_some]
    rw [if_neg (by decide)]
    show (j:Int) + 1 = ((j + 1:Nat):Int)
    omega
def cmt (s:BS) (j:Nat):Nat:=match ix2 (s.drop j) with | none=>s.length | some m=>j + m
theorem cmt_end {s:BS} {j:Nat} (h:s.length ≤ j):cmt s j = s.length:=by
 unfold cmt
 rw [List.drop_eq_nil_of_le h]; rfl
theorem cmt_step {s:BS} {j:Nat} (h:j < s.length):cmt s j = if s[j] = 32 ∧ s[j + 1]? = some 35 then j else cmt s (j + 1):=by
 unfold cmt
 rw [drop_at h,ix2_cons,List.head?_drop]
 by_cases hc:s[j] = 32 ∧ s[j + 1]? = some 35
 ·rw [if_pos hc,if_pos hc]; rfl
 ·rw [if_neg hc,if_neg hc]
  cases ix2 (s.drop (j + 1)) with
  | none=>rfl
  | some m=>show j + (m + 1) = j + 1 + m; omega
theorem cmt_le {s:BS} {j:Nat} (h:j ≤ s.length):cmt s j ≤ s.length:=by
 unfold cmt
 cases hx:ix2 (s.drop j) with
 | none=>exact Nat.le_refl _
 | some m=>have:=ix2_len hx; rw [List.length_drop] at this; show j + m ≤ _; omega
theorem l2_12 (n:Nat) (s:BS) (hs:s.length ≤ 100000):∀ (j k:Nat),j < k → j < s.length → ref12_value_l2 n s k ((cmt s j:Nat):Int) ((j:Int) - 1) = some ((cmt s 0:Nat):Int)
 | 0,k,h,h1=>by
  obtain ⟨k,rfl⟩:∃ k',k = k' + 1:=⟨k - 1,by omega⟩
  rw [ref12_value_l2,if_neg (by simp)]
 | j + 1,k,h,h1=>by
  obtain ⟨k,rfl⟩:∃ k',k = k' + 1:=⟨k - 1,by omega⟩
  have hj:(((j + 1:Nat):Int) - 1) = (j:Int):=by omega
  rw [ref12_value_l2,hj,if_pos (decide_eq_true (by omega))]
  have hw:IntKind.wrap .i64 ((j:Int) - 1) = (j:Int) - 1:=wrap_id _ (by omega) (by omega)
  have e:ref12_value_j3 n s ((cmt s (j + 1):Nat):Int) (j:Int) = some ((cmt s j:Nat):Int):=by
   unfold ref12_value_j3
   rw [if_pos (in_i (by omega)),at_i (by omega:j < s.length),wrap_s j (by omega),at_i h1,b32,b35,if_pos (by rw [in_i h1,Bool.or_true]),cmt_step (by omega:j < s.length),List.getElem?_eq_getElem h1]
   simp only [lett,Option.some.injEq]
   by_cases c1:s[j] = 32
   ·by_cases c2:s[j + 1] = 35
    ·rw [decide_eq_true c1,decide_eq_true c2,if_pos (by rfl),if_pos ⟨c1,c2⟩]
    ·rw [decide_eq_true c1,decide_eq_false c2,if_neg (by simp),if_neg (fun h=>c2 h.2)]
   ·rw [decide_eq_false c1,if_neg (by simp),if_neg (fun h=>c1 h.1)]
  rw [e,Option.bind_some,hw]
  exact l2_12 n s hs j k (by omega) (by omega)
theorem l2_run (n:Nat) (s:BS) (hs:s.length ≤ 100000) (hn:s.length < n):ref12_value_l2 n s n (s.length:Int) (IntKind.wrap .i64 ((s.length:Int) - 2)) = some ((cmt s 0:Nat):Int):=by
 obtain ⟨m,rfl⟩:∃ m,n = m + 1:=⟨n - 1,by omega⟩
 rw [wrap_id _ (by omega) (by omega)]
 cases hl:s.length with
 | zero =>
  have:s = []:=List.eq_nil_of_length_eq_zero hl
  subst this
  rfl
 | succ j =>
  have h1:cmt s j = s.length:=by
   rw [cmt_step (by omega),cmt_end (by omega:s.length ≤ j + 1),if_neg]
   rintro ⟨_,h⟩
   rw [List.getElem?_eq_none (by omega)] at h; cases h
  have:=l2_12 (m + 1) s hs j (m + 1) (by omega) (by omega)
  rw [h1,hl] at this
  rw [show ((j + 1:Nat):Int) - 2 = (j:Int) - 1 by omega]
  exact this
theorem good_all_l {L:Nat → Int → Option (Sum Unit (BS × Bool))} (s:BS) (hs:s.length ≤ 100000) (hstep:∀ k i (h:i < s.length),L (k + 1) (i:Int) = if good s[i] = false then some (.inr ([],false)) else L k (IntKind.wrap .i64 ((i:Int) + 1))) (hend:∀ k,L (k + 1) (s.length:Int) = some (.inl ())) (n:Nat) (hn:s.length < n) :
  L n 0 = some (if s.all good = true then .inl () else .inr ([],false)):=by
 have:=scanL (L:=L) s (fun c=>if good c = false then some (([],false):BS × Bool) else none) 0 (by omega)
  (fun k i h _=>by rw [hstep k i h]; cases good s[i] <;> rfl) hend n 0 (by omega) (by omega) (by omega)
 rw [show (0:Int) = ((0:Nat):Int) from rfl,this,List.drop_zero]
 clear this hstep hend
 congr 1
 induction s with
 | nil=>rfl
 | cons c r ih =>
  have ih:=ih (by simp at hs; omega) (by simp at hn; omega)
  rw [List.findSome?_cons,List.all_cons]
  cases good c with
  | false=>rfl
  | true=>simpa using ih
theorem bad12:∀ c:UInt8,(bif decide ((c.toNat:Int) < 32) then true else ((c.toNat:Int) == 127)) = !good c:=byte_all (by decide +kernel)
theorem ev_l2 (n:Nat) (s:BS) (hs:s.length ≤ 100000) (hn:s.length < n):env_value_l2 n s (s.length:Int) n 0 = some (if s.all good = true then .inl () else .inr ([],false)) :=
 good_all_l (L:=env_value_l2 n s (s.length:Int)) s hs (fun k i h=>by
  rw [env_value_l2,if_pos (lt_i h),if_pos (in_i h),in_i h,at_i h,bad12,Bool.or_true,if_pos rfl]
  simp only [lett]
  cases good s[i] <;> rfl) (fun k=>by rw [env_value_l2,nlt_n]; rfl) n hn
theorem rv_l4 (n:Nat) (s:BS) (hs:s.length ≤ 100000) (hn:s.length < n):ref12_value_l4 n s n 0 = some (if s.all good = true then .inl () else .inr ([],false)) :=
 good_all_l (L:=ref12_value_l4 n s) s hs (fun k i h=>by
  rw [ref12_value_l4,if_pos (lt_i h),if_pos (in_i h),at_i h,Good_good]
  cases good s[i] <;> rfl) (fun k=>by rw [ref12_value_l4,nlt_n]; rfl) n hn
def bl12:BS → Nat
 | []=>0
 | c :: r=>if c = 32 then bl12 r + 1 else 0
theorem bl12_cons (c:UInt8) (r:BS):bl12 (c :: r) = if c = 32 then bl12 r + 1 else 0:=rfl
theorem bl12_len:∀ s:BS,bl12 s ≤ s.length
 | []=>Nat.le_refl _
 | c :: r=>by
  rw [bl12_cons]
  by_cases hc:c = 32
  ·rw [if_pos hc]; have:=bl12_len r; simp; omega
  ·rw [if_neg hc]; simp
theorem bl12_trim:∀ s:BS,Lib.trimLeftB s 32 = s.drop (bl12 s)
 | []=>rfl
 | c :: r=>by
  rw [bl12_cons]
  by_cases hc:c = 32
  ·subst hc
   rw [if_pos rfl,trimL_blank,bl12_trim r]; rfl
  ·rw [if_neg hc,trimL_other hc]; rfl
theorem rv_l1 (n:Nat) (s v4:BS) (v5:Int) (hs:s.length ≤ 100000):∀ (k i:Nat),s.length - i < k → i ≤ s.length → ref12_value_l1 n s v4 v5 k (i:Int) = some ((i + bl12 (s.drop i):Nat):Int)
 | 0,i,h,_=>by omega
 | k + 1,i,h,hi=>by
  rw [ref12_value_l1]
  by_cases hlt:i < s.length
  ·rw [lt_i hlt,in_i hlt,at_i hlt,b32,if_pos (by rfl),cond_true,drop_at hlt,bl12_cons]
   by_cases hc:s[i] = 32
   ·rw [if_pos (decide_eq_true hc),if_pos hc,wrap_s i (by omega),rv_l1 n s v4 v5 hs k (i + 1) (by omega) (by omega)]
    congr 2; omega
   ·rw [if_neg (by simpa using hc),if_neg hc]; rfl
  ·have:i = s.length:=by omega
   subst this
   rw [nlt_n,if_pos (by rfl),cond_false,if_neg Bool.false_ne_true,List.drop_length]; rfl
theorem ref_err (n:Nat) (s:BS) (a:Int) {r:BS × Int × Int} (h:ref06_Scan n s a = some r) (he:r.2.2 ≠ 0):r.2.1 = 0 ∧ r.1 = []:=by
 unfold ref06_Scan at h
 split at h
 ·split at h
  ·simp only [lett] at h
   split at h
   ·cases h; exact ⟨rfl,rfl⟩
   ·split at h
    ·rw [Option.bind_eq_some_iff] at h
     obtain ⟨o,_,h⟩:=h
     split at h
     ·cases h; exact ⟨rfl,rfl⟩
     ·cases h; exact absurd rfl he
    ·cases h
  ·cases h
 ·cases h
theorem quo_test (s:BS):(bif (!(s == [])) then (bif ((((s)[Int.toNat 0]?.getD 0).toNat:Int) == 34) then true else ((((s)[Int.toNat 0]?.getD 0).toNat:Int) == 39)) else false) = true ↔ ∃ c r,s = c :: r ∧ (c = 34 ∨ c = 39):=by
 cases s with
 | nil=>simp
 | cons c r =>
  have h:((c :: r)[Int.toNat 0]?.getD 0) = c:=rfl
  rw [h,b34,b39]
  by_cases h1:c = 34
  ·subst h1; simp
  ·by_cases h2:c = 39
   ·subst h2; simp
   ·simp [h1,h2]
theorem len_test (s:BS):decide ((List.length s:Int) > 0) = !(s == []):=by
 cases s with
 | nil=>rfl
 | cons c r=>rw [decide_eq_true (by rw [List.length_cons]; omega)]; rfl
theorem value_eq (n:Nat) (s:BS) (hs:s.length ≤ 10000) (hn:20000 ≤ n) (h0:s.head? ≠ some 32):∃ v w ok,env_value n s = some (v,ok) ∧ ref12_value n s = some (w,ok) ∧ (ok = true → v = w):=by
 have hg1:(!((!(s == [])) == true) || decide (0 ≤ (0:Int) ∧ (0:Int) < (List.length s:Int))) = true:=by
  cases s with
  | nil=>rfl
  | cons c r=>rw [(z_in c r).1,Bool.or_true]
 have hg2:(!((((((s)[Int.toNat 0]?.getD 0).toNat:Int) == 34) == false) && ((!(s == [])) == true)) || decide (0 ≤ (0:Int) ∧ (0:Int) < (List.length s:Int))) = true:=by
  cases s with
  | nil=>rw [show ((!(([]:BS) == [])) == true) = false from rfl,Bool.and_false]; rfl
  | cons c r=>rw [(z_in c r).1,Bool.or_true]
 unfold env_value ref12_value
 rw [len_test,if_pos hg1,if_pos hg2,if_pos hg1,if_pos hg2]
 simp only [lett]
 by_cases hq:∃ c r,s = c :: r ∧ (c = 34 ∨ c = 39)
 ·rw [if_pos ((quo_test s).2 hq),if_pos ((quo_test s).2 hq)]
  obtain ⟨r,h1,h2,h3⟩:=scan_eq n s 0 hs hn (by decide)
  rw [h1,h2,Option.bind_some,Option.bind_some]
  by_cases he:r.2.2 = 0
  ·obtain ⟨j,hj1,hj2,hj3,hj4⟩:=h3 he
   have ht:Lib.trimLeftB (List.drop j s) 32 = s.drop (j + bl12 (s.drop j)):=by rw [bl12_trim,List.drop_drop]
   have hbl:=bl12_len (s.drop j)
   rw [List.length_drop] at hbl
   rw [hj1,he,tn,if_pos (le_i hj3),ht,if_neg (by decide:¬ ((0:Int) != 0) = true),rv_l1 n s r.1 (j:Int) (by omega) n j (by omega) (by omega),Option.bind_some]
   generalize hm:j + bl12 (s.drop j) = m at *
   have hjm:j ≤ m:=by omega
   have hms:m ≤ s.length:=by omega
   by_cases hend:m = s.length
   ·subst hend
    rw [List.drop_length]
    refine ⟨r.1,r.1,true,by rfl,?_,fun _=>rfl⟩
    have e:(((s.length:Nat):Int) == (s.length:Int)) = true:=beq_self_eq_true _
    rw [e]
    rw [if_pos (by rw [show (true == false) = false from rfl,Bool.and_false]; rfl)]
    rfl
   ·have hlt:m < s.length:=by omega
    have e1:(((m:Nat):Int) == (s.length:Int)) = false:=by rw [beq_eq_false_iff_ne]; omega
    have e2:(List.drop m s == []) = false:=by rw [beq_eq_false_iff_ne,drop_at hlt]; exact List.cons_ne_nil _ _
    have e3:((List.drop m s)[Int.toNat 0]?.getD 0) = s[m]:=by rw [drop_at hlt]; rfl
    have e4:decide (0 ≤ (0:Int) ∧ (0:Int) < ((List.drop m s).length:Int)) = true:=by rw [List.length_drop]; exact decide_eq_true (by omega)
    have e5:decide (((List.drop m s).length:Int) < IntKind.wrap .i64 ((s.length:Int) - (j:Int))) = decide ((m:Int) > (j:Int)):=by
     rw [List.length_drop,wrap_id _ (by omega) (by omega)]
     exact decide_eq_decide.2 ⟨fun h=>by omega,fun h=>by omega⟩
    rw [e1,e2,e3,e4,e5,in_i hlt,at_i hlt,Bool.or_true,Bool.or_true,if_pos rfl,if_pos rfl,b35]
    cases hd:decide ((m:Int) > (j:Int)) <;> by_cases hc:s[m] = 35
    ·exact ⟨_,_,false,by rw [decide_eq_true hc]; rfl,rfl,fun h=>by cases h⟩
    ·exact ⟨_,_,false,by rw [decide_eq_false hc]; rfl,rfl,fun h=>by cases h⟩
    ·exact ⟨_,_,true,by rw [decide_eq_true hc]; rfl,by rw [decide_eq_true hc]; rfl,fun _=>rfl⟩
    ·exact ⟨_,_,false,by rw [decide_eq_false hc]; rfl,by rw [decide_eq_false hc]; rfl,fun h=>by cases h⟩
  ·obtain ⟨z1,z2⟩:=ref_err n s 0 h2 he
   have hb:(r.2.2 == 0) = false:=by rw [beq_eq_false_iff_ne]; exact he
   rw [z1,if_pos (show (r.2.2 != 0) = true by rw [bne,hb]; rfl),if_pos (decide_eq_true (by omega):decide ((0:Int) ≤ 0 ∧ (0:Int) ≤ (s.length:Int)) = true),hb]
   rw [if_pos (by rw [show (false == true) = false from rfl,Bool.and_false]; rfl)]
   exact ⟨_,_,false,rfl,rfl,fun h=>by cases h⟩
 ·rw [if_neg (fun h=>hq ((quo_test s).1 h)),if_neg (fun h=>hq ((quo_test s).1 h))]
  have hlim:decide (s.length < 4294967281) = true:=decide_eq_true (by omega)
  rw [if_pos hlim,l2_run n s (by omega) (by omega),Option.bind_some,if_pos (le_i (cmt_le (Nat.zero_le _))),tn]
  have hj:env_value_j1 n s (Lib.index s [32,35]) (decide (Lib.index s [32,35] ≥ 0)) = some (s.take (cmt s 0)):=by
   rw [index2]
   unfold cmt env_value_j1
   rw [List.drop_zero]
   cases hx:ix2 s with
   | none=>simp
   | some i =>
    have:=ix2_len hx
    simp only [Nat.zero_add]
    rw [if_pos (decide_eq_true (by omega)),if_pos (le_i (by omega)),tn]
  rw [hj,Option.bind_some]
  generalize ht:s.take (cmt s 0) = t
  have htl:t.length ≤ s.length:=by rw [← ht,List.length_take]; omega
  have hth:t.head? ≠ some 32:=by
   rw [← ht]
   cases s with
   | nil=>simp
   | cons c r=>cases cmt (c :: r) 0 <;> simp_all
  have hB:Lib.trimB t 32 = Lib.trimRightB t 32:=by
   rw [trim_comm]
   cases t with
   | nil=>rfl
   | cons c r=>rw [trimL_other (by simpa using hth)]
  have hr:=trimR_len t
  rw [if_pos (decide_eq_true (by omega)),rtrim12 n t (by omega) (by omega),Option.bind_some,hB,ev_l2 n _ (by omega) (by omega),rv_l4 n _ (by omega) (by omega)]
  cases (Lib.trimRightB t 32).all good with
  | true=>exact ⟨_,_,true,rfl,rfl,fun _=>rfl⟩
  | false=>exact ⟨_,_,false,rfl,rfl,fun h=>by cases h⟩
def kEx:BS:=[101,120,112,111,114,116,32]
def ps12 (b:UInt8):BS → Nat
 | []=>0
 | c :: r=>if c = b then 0 else ps12 b r + 1
theorem ps12_cons (b c:UInt8) (r:BS):ps12 b (c :: r) = if c = b then 0 else ps12 b r + 1:=rfl
theorem ps12_len (b:UInt8):∀ s:BS,ps12 b s ≤ s.length
 | []=>Nat.le_refl _
 | c :: r=>by
  rw [ps12_cons]
  by_cases hc:c = b
  ·rw [if_pos hc]; simp
  ·rw [if_neg hc]; have:=ps12_len b r; simp; omega
theorem b61 (c:UInt8):((c.toNat:Int) == 61) = decide (c = 61):=beq_byte c 61 (by decide)
theorem rl_l2 (n:Nat) (s:BS) (b:S_api_Var) (hs:s.length ≤ 100000):∀ (k i:Nat),s.length - i < k → i ≤ s.length → ref12_line_l2 n s b k (i:Int) = some ((i + ps12 61 (s.drop i):Nat):Int)
 | 0,i,h,_=>by omega
 | k + 1,i,h,hi=>by
  rw [ref12_line_l2]
  by_cases hlt:i < s.length
  ·have hne:((s[i].toNat:Int) != 61) = !decide (s[i] = 61):=by rw [← b61]; rfl
   rw [lt_i hlt,in_i hlt,at_i hlt,hne,if_pos (by rfl),cond_true,drop_at hlt,ps12_cons]
   by_cases hc:s[i] = 61
   ·rw [if_neg (by simpa using hc),if_pos hc]; rfl
   ·rw [if_pos (by simpa using hc),if_neg hc,wrap_s i (by omega),rl_l2 n s b hs k (i + 1) (by omega) (by omega)]
    congr 2; omega
  ·have:i = s.length:=by omega
   subst this
   rw [nlt_n,if_pos (by rfl),cond_false,if_neg Bool.false_ne_true,List.drop_length]; rfl
theorem rp_l2 (n:Nat) (s:BS) (v5:List S_api_Var) (v6:Int) (hs:s.length ≤ 100000):∀ (k i:Nat),s.length - i < k → i ≤ s.length → ref12_Parse_l2 n s v5 v6 k (i:Int) = some ((i + ps12 10 (s.drop i):Nat):Int)
 | 0,i,h,_=>by omega
 | k + 1,i,h,hi=>by
  rw [ref12_Parse_l2]
  by_cases hlt:i < s.length
  ·have hne:((s[i].toNat:Int) != 10) = !decide (s[i] = 10):=by rw [← b10]; rfl
   rw [lt_i hlt,in_i hlt,at_i hlt,hne,if_pos (by rfl),cond_true,drop_at hlt,ps12_cons]
   by_cases hc:s[i] = 10
   ·rw [if_neg (by simpa using hc),if_pos hc]; rfl
   ·rw [if_pos (by simpa using hc),if_neg hc,wrap_s i (by omega),rp_l2 n s v5 v6 hs k (i + 1) (by omega) (by omega)]
    congr 2; omega
  ·have:i = s.length:=by omega
   subst this
   rw [nlt_n,if_pos (by rfl),cond_false,if_neg Bool.false_ne_true,List.drop_length]; rfl
theorem cut_ps (b:UInt8):∀ s:BS,(Lib.cut s [b]) = if ps12 b s < s.length then (s.take (ps12 b s),s.drop (ps12 b s + 1),true) else (s,[],false):=by
 intro s
 rw [cut_eq]
 induction s with
 | nil=>rfl
 | cons c r ih =>
  rw [ps12_cons]
  unfold upto
  by_cases hc:c = b
  ·rw [if_pos hc,if_pos hc,if_pos (by simp)]; simp
  ·rw [if_neg hc,if_neg hc]
   cases hu:upto b r with
   | none =>
    rw [hu] at ih
    by_cases h2:ps12 b r < r.length
    ·rw [if_pos h2] at ih; simp at ih
    ·rw [if_neg (by simpa using h2)]; rfl
   | some q =>
    rw [hu] at ih
    by_cases h2:ps12 b r < r.length
    ·rw [if_pos h2] at ih
     rw [if_pos (by simpa using h2)]
     simp only [Prod.mk.injEq,and_true] at ih
     simp only [Option.map_some,List.take_succ_cons,List.drop_succ_cons,Prod.mk.injEq,and_true]
     exact ⟨by rw [ih.1],ih.2⟩
    ·rw [if_neg h2] at ih; simp at ih
theorem hd_test (s:BS):Lib.hasPrefix s [32] = decide (s.head? = some 32):=by
 unfold Lib.hasPrefix
 rw [Bool.eq_iff_iff,decide_eq_true_eq]
 cases s with
 | nil=>simp [List.isPrefixOf]
 | cons c r=>simp only [List.isPrefixOf,Bool.and_true,beq_iff_eq,List.head?_cons,Option.some.injEq]; exact ⟨Eq.symm,Eq.symm⟩
theorem pre7 {s:BS} (hr:∀ p c,s = p ++ [c] → c ≠ 32):(bif decide ((List.length s:Int) > 7) then (List.take (Int.toNat 7) s == [101,120,112,111,114,116,32]) else false) = Lib.hasPrefix s kEx:=by
 unfold Lib.hasPrefix
 rw [Bool.eq_iff_iff,List.isPrefixOf_iff_prefix,List.prefix_iff_eq_take]
 by_cases h:s.length > 7
 ·rw [decide_eq_true (by omega),cond_true,beq_iff_eq]
  exact Eq.comm
 ·rw [decide_eq_false (by omega),cond_false]
  refine ⟨fun h=>(by cases h),fun h2=>?_⟩
  have h3:s = kEx:=by
   have:=congrArg List.length h2
   rw [List.length_take] at this
   have:kEx.length = 7:=rfl
   rw [h2,show kEx.length = 7 from rfl,List.take_of_length_le (by omega)]
  exact absurd rfl (hr [101,120,112,111,114,116] 32 h3)
theorem emp_test (s:BS):((List.length s:Int) == 0) = (s == []):=by
 cases s with
 | nil=>rfl
 | cons c r=>rw [show ((c :: r) == ([]:BS)) = false from rfl,beq_eq_false_iff_ne,List.length_cons]; omega
def unexp (s:BS):BS:=if Lib.hasPrefix s kEx = true then Lib.trimLeftB (s.drop 7) 32 else s
theorem row_eq (n:Nat) (s:BS) (hs:s.length ≤ 10000) (hn:20000 ≤ n):∃ x y ok,env_row n s = some (x,ok) ∧ ref12_line n s = some (y,ok) ∧ (ok = true → x = y ∧ (x.f_Key = [] ∨ isName va1 va2 x.f_Key = true)):=by
 unfold env_row ref12_line
 have hbl:=trimB_len s
 rw [if_pos (decide_eq_true (by omega)),rtrim12 n s (by omega) (by omega),Option.bind_some]
 have hlast:∀ p c,Lib.trimB s 32 = p ++ [c] → c ≠ 32:=by
  intro p c h
  exact trimR_last _ _ (trim_comm s).symm p c h
 generalize Lib.trimB s 32 = t at *
 rw [emp_test t]
 have hg:(!((t == []) == false) || decide (0 ≤ (0:Int) ∧ (0:Int) < (List.length t:Int))) = true:=by
  cases t with
  | nil=>rfl
  | cons c r=>rw [(z_in c r).1,Bool.or_true]
 rw [if_pos hg,if_pos hg]
 by_cases hc:(bif (t == []) then true else ((((t)[Int.toNat 0]?.getD 0).toNat:Int) == 35)) = true
 ·rw [if_pos hc,if_pos hc]
  exact ⟨_,_,true,rfl,rfl,fun _=>⟨rfl,.inl rfl⟩⟩
 ·rw [if_neg hc,if_neg hc]
  have hg7:(!((decide ((List.length t:Int) > 7)) == true) || decide (0 ≤ (7:Int) ∧ (7:Int) ≤ (List.length t:Int))) = true:=by
   by_cases h:t.length > 7
   ·rw [show decide (0 ≤ (7:Int) ∧ (7:Int) ≤ (List.length t:Int)) = true from decide_eq_true (by omega),Bool.or_true]
   ·rw [show decide ((List.length t:Int) > 7) = false from decide_eq_false (by omega)]; rfl
  rw [if_pos hg7,pre7 hlast]
  simp only [lett]
  have hx:env_row_j1 n t (Lib.trimPrefix t ([101,120,112,111,114,116,32]:BS)) (Lib.hasPrefix t ([101,120,112,111,114,116,32]:BS)) (S_api_Var.mk [] []) = some (unexp t):=by
   unfold env_row_j1 unexp
   show (if Lib.hasPrefix t kEx = true then some (Lib.trimLeftB (Lib.trimPrefix t kEx) 32) else some t) = _
   by_cases h:Lib.hasPrefix t kEx = true
   ·rw [if_pos h,if_pos h]
    unfold Lib.trimPrefix
    rw [if_pos h]; rfl
   ·rw [if_neg h,if_neg h]
  have hy:ref12_line_j1 n t (Lib.hasPrefix t kEx) (S_api_Var.mk [] []) = some (unexp t):=by
   unfold ref12_line_j1 unexp
   by_cases h:Lib.hasPrefix t kEx = true
   ·have hp:kEx <+: t:=List.isPrefixOf_iff_prefix.1 h
    obtain ⟨u,hu⟩:=hp
    have h7:7 ≤ t.length:=by rw [← hu,List.length_append]; exact Nat.le_add_right 7 _
    have hd:List.drop (Int.toNat 7) t = u:=by rw [← hu]; rfl
    have hd':List.drop 7 t = u:=hd
    have hul:u.length ≤ t.length:=by rw [← hu,List.length_append]; omega
    rw [if_pos h,if_pos h,if_pos (decide_eq_true (by omega)),hd,hd',rtrim12 n u (by omega) (by omega),Option.bind_some]
    unfold Lib.trimB
    rw [trimR_id]
    intro p c h2
    exact hlast (kEx ++ p) c (by rw [← hu,h2,List.append_assoc])
   ·rw [if_neg h,if_neg h]
  have hel:(unexp t).length ≤ t.length:=by
   unfold unexp
   by_cases h:Lib.hasPrefix t kEx = true
   ·rw [if_pos h]; have:=trimL_len (t.drop 7); rw [List.length_drop] at this; omega
   ·rw [if_neg h]; exact Nat.le_refl _
  rw [hx,hy,Option.bind_some,Option.bind_some]
  generalize unexp t = u at *
  have hq:=rl_l2 n u (S_api_Var.mk [] []) (by omega) n 0 (by omega) (by omega)
  rw [show ((0:Nat):Int) = 0 from rfl,List.drop_zero,Nat.zero_add] at hq
  have hqi:=ps12_len 61 u
  rw [if_pos (decide_eq_true (by omega)),hq,Option.bind_some,cut_ps]
  by_cases hlt:ps12 61 u < u.length
  ·have e1:(((ps12 61 u:Nat):Int) == (u.length:Int)) = false:=by rw [beq_eq_false_iff_ne]; omega
   have ew:IntKind.wrap .i64 (((ps12 61 u:Nat):Int) + 1) = ((ps12 61 u + 1:Nat):Int):=wrap_s _ (by omega)
   rw [if_pos hlt,e1,le_i hqi,ew]
   simp only [tn]
   have hg9:∀ b:Bool,(!(((decide (((ps12 61 u + 1:Nat):Int) < (u.length:Int))) == true) && ((bif false then true else (!b)) == false)) || decide (0 ≤ ((ps12 61 u + 1:Nat):Int) ∧ ((ps12 61 u + 1:Nat):Int) < (u.length:Int))) = true:=by
    intro b
    by_cases h:ps12 61 u + 1 < u.length
    ·rw [in_i h,Bool.or_true]
    ·rw [nlt_i (by omega:u.length ≤ ps12 61 u + 1)]; rfl
   rw [if_pos (by rfl),if_pos (by rfl),if_pos (by rfl),name_Variable_eq n _ (by omega),ref02_Variable_eq n _ (by omega),Option.bind_some,Option.bind_some,if_pos (hg9 _)]
   have hh:(bif decide (((ps12 61 u + 1:Nat):Int) < (u.length:Int)) then ((((u)[ps12 61 u + 1]?.getD 0).toNat:Int) == 32) else false) = Lib.hasPrefix (u.drop (ps12 61 u + 1)) [32]:=by
    rw [hd_test,List.head?_drop]
    by_cases h:ps12 61 u + 1 < u.length
    ·rw [lt_i h,cond_true,List.getElem?_eq_getElem h,Option.getD_some,b32]
     simp
    ·rw [nlt_i (by omega:u.length ≤ ps12 61 u + 1),cond_false,List.getElem?_eq_none (by omega)]; rfl
   rw [hh]
   cases hv:isName va1 va2 (u.take (ps12 61 u)) with
   | false=>exact ⟨_,_,false,rfl,rfl,fun h=>by cases h⟩
   | true =>
    cases hp:Lib.hasPrefix (u.drop (ps12 61 u + 1)) [32] with
    | true=>exact ⟨_,_,false,rfl,rfl,fun h=>by cases h⟩
    | false =>
     have h0:(u.drop (ps12 61 u + 1)).head? ≠ some 32:=by
      rw [hd_test] at hp
      exact of_decide_eq_false hp
     obtain ⟨v,w,ok,h1,h2,h3⟩:=value_eq n (u.drop (ps12 61 u + 1)) (by rw [List.length_drop]; omega) hn h0
     refine ⟨⟨u.take (ps12 61 u),v⟩,⟨u.take (ps12 61 u),w⟩,ok,?_,?_,fun h=>⟨by rw [h3 h],.inr hv⟩⟩
     ·rw [h1]; rfl
     ·rw [h2,if_neg (by decide),if_pos (le_i (by omega:ps12 61 u + 1 ≤ u.length)),Option.bind_some,if_pos trivial]
  ·have e0:ps12 61 u = u.length:=by omega
   have e1:(((u.length:Nat):Int) == (u.length:Int)) = true:=beq_self_eq_true _
   rw [if_neg hlt,e0,e1]
   refine ⟨⟨[],[]⟩,⟨[],[]⟩,false,rfl,?_,fun h=>(by cases h)⟩
   rw [if_pos (by rfl),if_neg (by decide),Option.bind_some,if_pos (by rw [show ((bif true then true else (!false)) == false) = false from rfl,Bool.and_false]; rfl)]
   rfl
end Go.Proofs.YtibgdilkodjojaaDoor.M
