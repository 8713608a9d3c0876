import Derived.Test.YtefojkdckfidcaaGreatDoorQP10
set_option linter.all false
namespace Go.Proofs.YtefojkdckfidcaaGreatDoor.M
open Go Go.Proofs.YtefojkdckfidcaaGreatDoor.RX Go.Proofs.YtefojkdckfidcaaGreatDoor.PL
set_option maxRecDepth 100000
theorem fits9 {a b:Nat} (h:a + b ≤ 1000000000):decide ((a + b) * (1 + 1) ≤ limit) = true:=decide_eq_true (by show (a + b) * (1 + 1) ≤ 140737488355328; omega)
def hexv (c:UInt8):Option Nat:=if 48 ≤ c.toNat ∧ c.toNat ≤ 57 then some (c.toNat - 48) else if 97 ≤ c.toNat ∧ c.toNat ≤ 102 then some (c.toNat - 87) else if 65 ≤ c.toNat ∧ c.toNat ≤ 70 then some (c.toNat - 55) else none
theorem hexv_lt:∀ (c:UInt8) (v:Nat),hexv c = some v → v < 16:=by
 intro c v h
 unfold hexv at h
 repeat' split at h
 all_goals first | (cases h; done) | (cases h; omega)
def hv (c:UInt8):Int:=match hexv c with | some v=>v | none=>16
def hb (c:UInt8):Int × Bool:=match hexv c with | some v=>(v,true) | none=>(0,false)
theorem hq:∀ c:UInt8,quote_hex (c.toNat:Int) = hb c:=byte_all (by decide +kernel)
theorem pairq:∀ v:Nat,v < 16 → ∀ w:Nat,w < 16 → (IntKind.wrap .u8 ((BitVec.ofInt (IntKind.bits .u8) (IntKind.wrap .u8 ((v:Int) * 2 ^ (min (Int.toNat 4) (IntKind.bits .u8)))) ||| BitVec.ofInt (IntKind.bits .u8) (w:Int)).toNat)) = (((UInt8.ofNat (v * 16 + w)).toNat:Nat):Int):=by decide +kernel
def uesc:List UInt8 → Option (UInt8 × Nat)
 | []=>none
 | d :: r =>
  if d = 92 ∨ d = 34 then some (d,2) else if d = 110 then some (10,2) else if d = 116 then some (9,2)
  else if d = 120 then (match r with | x :: y :: _=>(match hexv x,hexv y with | some v,some w=>some (UInt8.ofNat (v * 16 + w),4) | _,_=>none) | _=>none) else none
def ures (o:Option (UInt8 × Nat)):Int × Int:=match o with | some (b,l)=>((b.toNat:Int),(l:Int)) | none=>(0,0)
theorem escape_eq (n:Nat) (x:UInt8) (t:List UInt8):quote_escape n (x :: t) = some (ures (uesc t)):=by
 unfold quote_escape
 cases t with
 | nil=>rfl
 | cons d r =>
  have h2:decide ((List.length (x :: d :: r):Int) < 2) = false:=decide_eq_false (by simp only [List.length_cons]; omega)
  have h1:decide (0 ≤ (1:Int) ∧ (1:Int) < (List.length (x :: d :: r):Int)) = true:=decide_eq_true (by simp only [List.length_cons]; omega)
  have g1:((x :: d :: r)[Int.toNat 1]?.getD 0) = d:=rfl
  rw [h2,if_neg Bool.false_ne_true,if_pos h1,g1]
  unfold quote_escape_j1 quote_escape_j2
  rw [b92,b34,b110,b116,b120,h1,g1]
  unfold uesc
  by_cases c92:d = 92
  ·subst c92; rfl
  ·by_cases c34:d = 34
   ·subst c34; rfl
   ·by_cases c110:d = 110
    ·subst c110; rfl
    ·by_cases c116:d = 116
     ·subst c116; rfl
     ·by_cases c120:d = 120
      ·subst c120
       cases r with
       | nil=>rfl
       | cons y r =>
        cases r with
        | nil=>rfl
        | cons z r =>
         have h4:decide ((List.length (x :: 120 :: y :: z :: r):Int) < 4) = false:=decide_eq_false (by simp only [List.length_cons]; omega)
         have i2:decide (0 ≤ (2:Int) ∧ (2:Int) < (List.length (x :: 120 :: y :: z :: r):Int)) = true:=decide_eq_true (by simp only [List.length_cons]; omega)
         have i3:decide (0 ≤ (3:Int) ∧ (3:Int) < (List.length (x :: 120 :: y :: z :: r):Int)) = true:=decide_eq_true (by simp only [List.length_cons]; omega)
         have g2:((x :: 120 :: y :: z :: r)[Int.toNat 2]?.getD 0) = y:=rfl
         have g3:((x :: 120 :: y :: z :: r)[Int.toNat 3]?.getD 0) = z:=rfl
         rw [h4,i2,i3,g2,g3]
         simp only [lett,hq,hb]
         cases hy:hexv y with
         | none=>simp [ures]
         | some v =>
          cases hz:hexv z with
          | none=>simp [ures]
          | some w =>
           have:=pairq v (hexv_lt _ _ hy) w (hexv_lt _ _ hz)
           simp only [this]
           simp [ures]
      ·simp [c92,c34,c110,c116,c120,ures]
theorem uesc_len {t:List UInt8} {b:UInt8} {l:Nat} (h:uesc t = some (b,l)):2 ≤ l ∧ l ≤ 4 ∧ l ≤ t.length + 1:=by
 cases t with
 | nil=>cases h
 | cons d r =>
  cases r with
  | nil =>
   simp only [uesc] at h
   repeat' split at h
   all_goals first | (cases h; done) | (cases h; simp only [List.length_cons]; omega)
  | cons y r =>
   cases r with
   | nil =>
    simp only [uesc] at h
    repeat' split at h
    all_goals first | (cases h; done) | (cases h; simp only [List.length_cons]; omega)
   | cons z r =>
    simp only [uesc] at h
    repeat' split at h
    all_goals first | (cases h; done) | (cases h; simp only [List.length_cons]; omega)
theorem byte_rt (b:UInt8):decide (0 ≤ (b.toNat:Int) ∧ (b.toNat:Int) < 256) = true ∧ UInt8.ofNat (Int.toNat (b.toNat:Int)) = b:=by
 have:=b.toNat_lt
 refine ⟨decide_eq_true (by omega),?_⟩
 simp
theorem q34 (n k:Nat) (s acc:List UInt8) (i:Nat) (hs:s.length ≤ 100000000) (ha:acc.length ≤ 100000000) (h:i < s.length):quote_Scan_l1 n s 34 (k + 1) (i:Int) acc =
  if good s[i] = false then some (.inl ()) else if s[i] = 34 then some (.inr (acc,((i + 1:Nat):Int),0))
  else if s[i] = 92 then (match uesc (s.drop (i + 1)) with | none=>some (.inr ([],0,3)) | some (b,l)=>quote_Scan_l1 n s 34 k ((i + l:Nat):Int) (acc ++ [b]))
  else quote_Scan_l1 n s 34 k ((i + 1:Nat):Int) (acc ++ [s[i]]):=by
 rw [quote_Scan_l1]
 have hle:decide (0 ≤ (i:Int) ∧ (i:Int) ≤ (List.length s:Int)) = true:=decide_eq_true (by omega)
 have hf:∀ b:UInt8,decide ((List.length acc + List.length [b]) * (1 + 1) ≤ limit) = true:=fun b=>fits9 (by simp; omega)
 have e39:∀ c:UInt8,(bif ((c.toNat:Int) == 39) then ((34:Int) == (c.toNat:Int)) else false) = false:=byte_all (by decide +kernel)
 have hdrop:List.drop (Int.toNat (i:Int)) s = s[i] :: s.drop (i + 1):=drop_at h
 have hesc:=escape_eq n s[i] (s.drop (i + 1))
 simp only [in_i h,lt_i h,at_i h,ok_good,e39,lett,hle,hdrop,hesc,b34,b92,wrap_s i (by omega),hf,Bool.or_true,if_true,cond_true,cond_false,Option.bind_some]
 cases hg:good s[i] with
 | false=>simp
 | true =>
  by_cases c34:s[i] = 34
  ·simp [c34]
  ·by_cases c92:s[i] = 92
   ·cases hu:uesc (s.drop (i + 1)) with
    | none=>simp [c92,ures]
    | some p =>
     obtain ⟨b,l⟩:=p
     have hl:=uesc_len hu
     have hw:IntKind.wrap .i64 ((i:Int) + (l:Int)) = ((i + l:Nat):Int):=PL.wrap_add _ _ (by omega)
     have hl0:((l:Int) == 0) = false:=by rw [beq_eq_false_iff_ne]; omega
     obtain ⟨r1,r2⟩:=byte_rt b
     generalize hJ:((i + l:Nat):Int) = J at hw
     generalize quote_Scan_l1 n s 34 k = f
     simp only [c92]
     have e2:¬ ((92:UInt8) = 34):=by decide
     have e1:¬ (decide ((92:UInt8) = 34) = true):=by decide
     have e3:∀ q:Bool,((!false == true || q)) = true:=fun _=>rfl
     have e4:(bif decide True then (34:Int) == 34 else false) = true:=rfl
     have e5:¬ (true = false):=by decide
     rw [if_neg e5,if_neg e2,if_pos trivial,if_pos trivial,if_pos (e3 _),if_neg Bool.false_ne_true,if_neg e1,if_pos e4]
     refine (if_neg (show ¬ (((l:Int) == 0) = true) from by rw [hl0]; exact Bool.false_ne_true)).trans ?_
     refine (if_pos r1).trans ?_
     show f (IntKind.wrap .i64 ((i:Int) + (l:Int))) (acc ++ [UInt8.ofNat (Int.toNat (b.toNat:Int))]) = _
     rw [hw,r2,hJ]
   ·simp [c34,c92]
theorem q39 (n k:Nat) (s acc:List UInt8) (i:Nat) (hs:s.length ≤ 100000000) (ha:acc.length ≤ 100000000) (h:i < s.length):quote_Scan_l1 n s 39 (k + 1) (i:Int) acc =
  if good s[i] = false then some (.inl ()) else if s[i] = 39 then (if (if h':i + 1 < s.length then s[i + 1] == 39 else false) = true then quote_Scan_l1 n s 39 k ((i + 2:Nat):Int) (acc ++ [39]) else some (.inr (acc,((i + 1:Nat):Int),0)))
  else quote_Scan_l1 n s 39 k ((i + 1:Nat):Int) (acc ++ [s[i]]):=by
 rw [quote_Scan_l1]
 have hf:∀ b:UInt8,decide ((List.length acc + List.length [b]) * (1 + 1) ≤ limit) = true:=fun b=>fits9 (by simp; omega)
 have e39:∀ c:UInt8,(bif ((c.toNat:Int) == 39) then ((39:Int) == (c.toNat:Int)) else false) = decide (c = 39):=byte_all (by decide +kernel)
 have e92:∀ c:UInt8,(bif ((c.toNat:Int) == 92) then ((39:Int) == 34) else false) = false:=byte_all (by decide +kernel)
 simp only [in_i h,lt_i h,at_i h,ok_good,e39,e92,lett,b39,wrap_s i (by omega),wrap_s2 i (by omega),hf,Bool.or_true,if_true,cond_true]
 cases hg:good s[i] with
 | false=>simp
 | true =>
  by_cases c39:s[i] = 39
  ·by_cases h':i + 1 < s.length
   ·have l1:decide (((i + 1:Nat):Int) < (s.length:Int)) = true:=lt_i h'
    have i1:=in_i h'
    have g1:=at_i (d:=(0:UInt8)) h'
    generalize ((i + 1:Nat):Int) = J at l1 i1 g1
    cases hx:s[i + 1] == 39 with
    | true=>simp only [c39,l1,i1,g1,dif_pos h',hx,beq_bytes]; simp [hx]
    | false=>simp only [c39,l1,i1,g1,dif_pos h',hx,beq_bytes]; simp [hx]
   ·have l1:decide (((i + 1:Nat):Int) < (s.length:Int)) = false:=nlt_i (Nat.not_lt.1 h')
    generalize ((i + 1:Nat):Int) = J at l1
    simp only [c39,l1,dif_neg h']; simp
  ·simp [c39]
theorem q_end (n k:Nat) (s acc:List UInt8) (v:Int) (i:Nat) (h:s.length ≤ i):quote_Scan_l1 n s v (k + 1) (i:Int) acc = some (.inl ()):=by
 rw [quote_Scan_l1]
 simp only [nlt_i h]
 simp
def finq (r:Sum Unit (List UInt8 × Int × Int)):List UInt8 × Int × Int:=match r with | .inl _=>([],0,3) | .inr o=>o
theorem scan_open (n:Nat) (S:List UInt8) (i:Nat) (hS:S.length ≤ 100000000) (h:i < S.length) (hc:S[i] = 34 ∨ S[i] = 39):quote_Scan n S (i:Int) = (quote_Scan_l1 n S (S[i].toNat:Int) n ((i + 1:Nat):Int) []).bind fun o=>some (finq o):=by
 unfold quote_Scan
 have d1:decide ((i:Int) < 0) = false:=decide_eq_false (by omega)
 have d2:decide ((i:Int) ≥ (S.length:Int)) = false:=decide_eq_false (by omega)
 have n34:((S[i].toNat:Int) != 34) = !(decide (S[i] = 34)):=by rw [← b34]; rfl
 have n39:((S[i].toNat:Int) != 39) = !(decide (S[i] = 39)):=by rw [← b39]; rfl
 simp only [d1,d2,in_i h,at_i h,n34,n39,lett,wrap_s i (by omega),Bool.or_true,if_true,cond_false]
 have hx:(bif !decide (S[i] = 34) then !decide (S[i] = 39) else false) = false:=by
  rcases hc with hc | hc <;> rw [hc] <;> decide
 rw [hx,if_neg Bool.false_ne_true]
 congr 1
 funext o
 cases o <;> rfl
theorem hr:∀ c:UInt8,ref06_value (c.toNat:Int) = hv c:=byte_all (by decide +kernel)
theorem pairr:∀ v:Nat,v < 16 → ∀ w:Nat,w < 16 → (IntKind.wrap .u8 ((IntKind.wrap .i64 ((IntKind.wrap .i64 ((v:Int) * 16)) + (w:Int))))) = (((UInt8.ofNat (v * 16 + w)).toNat:Nat):Int):=by decide +kernel
theorem r34 (n k:Nat) (s acc:List UInt8) (i:Nat) (hs:s.length ≤ 100000) (ha:acc.length ≤ 100000) (h:i < s.length):ref06_double_l1 n s (k + 1) (i:Int) acc =
  if good s[i] = false then some (.inr ([],0,false)) else if s[i] = 34 then some (.inr (acc,((i + 1:Nat):Int),true))
  else if s[i] = 92 then (match uesc (s.drop (i + 1)) with | none=>some (.inr ([],0,false)) | some (b,l)=>ref06_double_l1 n s k ((i + l:Nat):Int) (acc ++ [b]))
  else ref06_double_l1 n s k ((i + 1:Nat):Int) (acc ++ [s[i]]):=by
 rw [ref06_double_l1]
 have hf:∀ b:UInt8,decide ((List.length acc + List.length [b]) * (1 + 1) ≤ limit) = true:=fun b=>fits (by simp; omega)
 have e92:((s[i].toNat:Int) != 92) = !(decide (s[i] = 92)):=by rw [← b92]; rfl
 have w3:IntKind.wrap .i64 ((i:Int) + 3) = ((i + 3:Nat):Int):=PL.wrap_add i 3 (by omega)
 have w4:IntKind.wrap .i64 ((i:Int) + 4) = ((i + 4:Nat):Int):=PL.wrap_add i 4 (by omega)
 rw [if_pos (lt_i h),if_pos (in_i h),at_i h,Good_good,b34,e92,hf,hf,wrap_s i (by omega),wrap_s2 i (by omega),w3,w4]
 cases hg:good s[i] with
 | false=>simp
 | true =>
  by_cases c34:s[i] = 34
  ·simp [c34]
  ·by_cases c92:s[i] = 92
   ·simp only [c34,c92,decide_true,decide_false,Bool.not_true,Bool.false_eq_true,if_false,if_true,Bool.true_eq_false]
    by_cases h1:i + 1 < s.length
    ·have n1:decide (((i + 1:Nat):Int) ≥ (s.length:Int)) = false:=decide_eq_false (by omega)
     have i1:=in_i h1
     have g1:=at_i (d:=(0:UInt8)) h1
     have hd1:=drop_at h1
     rw [n1,i1,g1,hd1]
     generalize s[i + 1] = d
     simp only [lett,b92,b34,b110,b116,b120,hf]
     unfold uesc
     by_cases d92:d = 92
     ·subst d92; simp
     ·by_cases d34:d = 34
      ·subst d34; simp
      ·by_cases d110:d = 110
       ·subst d110; simp
       ·by_cases d116:d = 116
        ·subst d116; simp
        ·by_cases d120:d = 120
         ·subst d120
          by_cases h3:i + 3 < s.length
          ·have h2:i + 2 < s.length:=by omega
           have l3:decide (((i + 3:Nat):Int) < (s.length:Int)) = true:=lt_i h3
           have i2:=in_i h2
           have i3:=in_i h3
           have g2:=at_i (d:=(0:UInt8)) h2
           have g3:=at_i (d:=(0:UInt8)) h3
           have hd2:=drop_at h2
           have hd3:=drop_at h3
           rw [l3,i2,i3,g2,g3,hd2,hd3]
           generalize s[i + 2] = y
           generalize s[i + 3] = z
           simp only [hr,hv]
           cases hy:hexv y with
           | none=>simp
           | some v =>
            have v16:=hexv_lt _ _ hy
            have vd:decide ((v:Int) < 16) = true:=decide_eq_true (by omega)
            cases hz:hexv z with
            | none=>simp [vd]
            | some w =>
             have w16:=hexv_lt _ _ hz
             have wd:decide ((w:Int) < 16) = true:=decide_eq_true (by omega)
             obtain ⟨r1,r2⟩:=byte_rt (UInt8.ofNat (v * 16 + w))
             simp only [vd,wd,pairr v v16 w w16,r1,r2,hf]
             simp
          ·have l3:decide (((i + 3:Nat):Int) < (s.length:Int)) = false:=nlt_i (Nat.not_lt.1 h3)
           rw [l3]
           have hnone:(match s.drop (i + 1 + 1) with | x :: y :: _=>(match hexv x,hexv y with | some v,some w=>some (UInt8.ofNat (v * 16 + w),4) | _,_=>none) | _=>(none:Option (UInt8 × Nat))) = none:=by
            have hl:(s.drop (i + 1 + 1)).length ≤ 1:=by simp; omega
            match s.drop (i + 1 + 1),hl with
            | [],_=>rfl
            | [_],_=>rfl
           simp only [hnone]
           simp
         ·simp [d92,d34,d110,d116,d120]
    ·have n1:decide (((i + 1:Nat):Int) ≥ (s.length:Int)) = true:=decide_eq_true (by omega)
     rw [n1,List.drop_eq_nil_of_le (by omega)]
     simp [uesc]
   ·simp [c34,c92]
theorem r39 (n k:Nat) (s acc:List UInt8) (i:Nat) (hs:s.length ≤ 100000) (ha:acc.length ≤ 100000) (h:i < s.length):ref06_single_l1 n s (k + 1) (i:Int) acc =
  if good s[i] = false then some (.inr ([],0,false)) else if s[i] = 39 then (if (if h':i + 1 < s.length then s[i + 1] == 39 else false) = true then ref06_single_l1 n s k ((i + 2:Nat):Int) (acc ++ [39]) else some (.inr (acc,((i + 1:Nat):Int),true)))
  else ref06_single_l1 n s k ((i + 1:Nat):Int) (acc ++ [s[i]]):=by
 rw [ref06_single_l1]
 have hf:∀ b:UInt8,decide ((List.length acc + List.length [b]) * (1 + 1) ≤ limit) = true:=fun b=>fits (by simp; omega)
 rw [if_pos (lt_i h),if_pos (in_i h),at_i h,Good_good,b39]
 cases hg:good s[i] with
 | false=>simp
 | true =>
  unfold ref06_single_j2
  rw [wrap_s i (by omega)]
  by_cases c39:s[i] = 39
  ·by_cases h':i + 1 < s.length
   ·have n1:decide (((i + 1:Nat):Int) ≥ (s.length:Int)) = false:=decide_eq_false (by omega)
    have i1:=in_i h'
    have g1:=at_i (d:=(0:UInt8)) h'
    have w2:IntKind.wrap .i64 (((i + 1:Nat):Int) + 1) = ((i + 2:Nat):Int):=wrap_s (i + 1) (by omega)
    have e39:((s[i + 1].toNat:Int) != 39) = !(s[i + 1] == 39):=by rw [← byte_eq,← b39]; rfl
    generalize ((i + 1:Nat):Int) = J at n1 i1 g1 w2
    cases hx:s[i + 1] == 39 with
    | true =>
     have hx':s[i + 1] = 39:=by simpa using hx
     have i1p:=of_decide_eq_true i1
     rw [hx'] at g1
     have g1':=g1
     generalize ((i + 2:Nat):Int) = J2 at w2 ⊢
     have h39:((39:UInt8).toNat:Int) = 39:=rfl
     have hfit:=of_decide_eq_true (hf 39)
     simp only [c39,n1,i1,g1,dif_pos h',hx',lett,w2,hf]
     simp [i1p,g1,w2,h',hx',h]
     have hb:J.toNat < s.length:=by omega
     have:s[J.toNat] = 39:=by simpa [hb] using g1
     rw [this]
    | false=>simp only [c39,n1,i1,g1,e39,hx,dif_pos h',lett]; simp [h]
   ·have n1:decide (((i + 1:Nat):Int) ≥ (s.length:Int)) = true:=decide_eq_true (by omega)
    generalize ((i + 1:Nat):Int) = J at n1
    simp only [c39,n1,dif_neg h',lett]; simp [h]
  ·have i0:=in_i h
   have g0:=at_i (d:=(0:UInt8)) h
   have w0:=wrap_s i (by omega)
   generalize (i:Int) = I at i0 g0 w0
   generalize ((i + 1:Nat):Int) = J at w0
   have i0p:=of_decide_eq_true i0
   simp only [c39,i0,g0,w0,hf]; simp [i0p,g0,w0]
   have hb:I.toNat < s.length:=by omega
   have:s[I.toNat] = s[i]:=by simpa [hb] using g0
   rw [this]
def Nx (s:List UInt8) (i:Nat) (o:List UInt8 × Int × Int):Prop:=o.2.2 = 0 → ∃ j:Nat,o.2.1 = (j:Int) ∧ i < j ∧ j ≤ s.length ∧ (s[j - 1]?.getD 0) ≠ 32
theorem Nx.le {s:List UInt8} {i i':Nat} {o:List UInt8 × Int × Int} (h:Nx s i' o) (hi:i ≤ i'):Nx s i o:=fun e=>let ⟨j,h1,h2,h3,h4⟩:=h e; ⟨j,h1,by omega,h3,h4⟩
def finr (r:Sum Unit (List UInt8 × Int × Bool)):List UInt8 × Int × Int:=match r with | .inl _=>([],0,3) | .inr o=>if o.2.2 = false then ([],0,3) else (o.1,o.2.1,0)
theorem scan34 (n:Nat) (s:List UInt8) (hs:s.length ≤ 10000):∀ (k i:Nat) (acc:List UInt8),s.length < k + i → acc.length ≤ i → ∃ r r',quote_Scan_l1 n s 34 (k + 1) (i:Int) acc = some r ∧ ref06_double_l1 n s (k + 1) (i:Int) acc = some r' ∧ finq r = finr r' ∧ Nx s i (finq r)
 | k,i,acc,h1,h2=>by
  by_cases h:i < s.length
  ·rw [q34 n k s acc i (by omega) (by omega) h,r34 n k s acc i (by omega) (by omega) h]
   obtain ⟨k,rfl⟩:∃ k',k = k' + 1:=⟨k - 1,by omega⟩
   cases hg:good s[i] with
   | false=>exact ⟨_,_,if_pos rfl,if_pos rfl,rfl,fun e=>by cases e⟩
   | true =>
    simp only [Bool.true_eq_false,if_false]
    by_cases c34:s[i] = 34
    ·rw [if_pos c34,if_pos c34]; exact ⟨_,_,rfl,rfl,rfl,fun _=>⟨i + 1,rfl,by omega,by omega,by simp [h,c34]⟩⟩
    ·rw [if_neg c34,if_neg c34]
     by_cases c92:s[i] = 92
     ·rw [if_pos c92,if_pos c92]
      cases hu:uesc (s.drop (i + 1)) with
      | none=>exact ⟨_,_,rfl,rfl,rfl,fun e=>by cases e⟩
      | some p =>
       obtain ⟨b,l⟩:=p
       have hl:=uesc_len hu
       obtain ⟨r,r',h3,h4,h5,h6⟩:=scan34 n s hs k (i + l) (acc ++ [b]) (by omega) (by simp; omega)
       exact ⟨r,r',h3,h4,h5,h6.le (by omega)⟩
     ·rw [if_neg c92,if_neg c92]
      obtain ⟨r,r',h3,h4,h5,h6⟩:=scan34 n s hs k (i + 1) (acc ++ [s[i]]) (by omega) (by simp; omega)
      exact ⟨r,r',h3,h4,h5,h6.le (by omega)⟩
  ·refine ⟨.inl (),.inl (),q_end n k s acc 34 i (by omega),?_,rfl,fun e=>by cases e⟩
   rw [ref06_double_l1]
   simp only [nlt_i (Nat.not_lt.1 h)]; simp
 termination_by k=>k
theorem scan39 (n:Nat) (s:List UInt8) (hs:s.length ≤ 10000):∀ (k i:Nat) (acc:List UInt8),s.length < k + i → acc.length ≤ i → ∃ r r',quote_Scan_l1 n s 39 (k + 1) (i:Int) acc = some r ∧ ref06_single_l1 n s (k + 1) (i:Int) acc = some r' ∧ finq r = finr r' ∧ Nx s i (finq r)
 | k,i,acc,h1,h2=>by
  by_cases h:i < s.length
  ·rw [q39 n k s acc i (by omega) (by omega) h,r39 n k s acc i (by omega) (by omega) h]
   obtain ⟨k,rfl⟩:∃ k',k = k' + 1:=⟨k - 1,by omega⟩
   cases hg:good s[i] with
   | false=>exact ⟨_,_,if_pos rfl,if_pos rfl,rfl,fun e=>by cases e⟩
   | true =>
    simp only [Bool.true_eq_false,if_false]
    by_cases c39:s[i] = 39
    ·rw [if_pos c39,if_pos c39]
     generalize (if h':i + 1 < s.length then s[i + 1] == 39 else false) = bb
     cases bb with
     | true =>
      simp only [if_true]
      obtain ⟨r,r',h3,h4,h5,h6⟩:=scan39 n s hs k (i + 2) (acc ++ [39]) (by omega) (by simp; omega)
      exact ⟨r,r',h3,h4,h5,h6.le (by omega)⟩
     | false=>exact ⟨_,_,rfl,rfl,rfl,fun _=>⟨i + 1,rfl,by omega,by omega,by simp [h,c39]⟩⟩
    ·rw [if_neg c39,if_neg c39]
     obtain ⟨r,r',h3,h4,h5,h6⟩:=scan39 n s hs k (i + 1) (acc ++ [s[i]]) (by omega) (by simp; omega)
     exact ⟨r,r',h3,h4,h5,h6.le (by omega)⟩
  ·refine ⟨.inl (),.inl (),q_end n k s acc 39 i (by omega),?_,rfl,fun e=>by cases e⟩
   rw [ref06_single_l1]
   simp only [nlt_i (Nat.not_lt.1 h)]; simp
 termination_by k=>k
theorem scan_eq (n:Nat) (s:List UInt8) (at_:Int) (hs:s.length ≤ 10000) (hn:20000 ≤ n) (hat:IntKind.min .i64 ≤ at_ ∧ at_ ≤ IntKind.max .i64):∃ r,quote_Scan n s at_ = some r ∧ ref06_Scan n s at_ = some r ∧ Nx s at_.toNat r:=by
 obtain ⟨n,rfl⟩:∃ m,n = m + 1:=⟨n - 1,by omega⟩
 unfold quote_Scan ref06_Scan
 by_cases hin:0 ≤ at_ ∧ at_ < (s.length:Int)
 ·obtain ⟨i,rfl⟩:∃ i:Nat,at_ = (i:Int):=⟨at_.toNat,by omega⟩
  have h:i < s.length:=by omega
  have d1:decide ((i:Int) < 0) = false:=decide_eq_false (by omega)
  have d2:decide ((i:Int) ≥ (s.length:Int)) = false:=decide_eq_false (by omega)
  have n34:((s[i].toNat:Int) != 34) = !(decide (s[i] = 34)):=by rw [← b34]; rfl
  have n39:((s[i].toNat:Int) != 39) = !(decide (s[i] = 39)):=by rw [← b39]; rfl
  simp only [d1,d2,in_i h,at_i h,n34,n39,lett,wrap_s i (by omega),Bool.or_true,if_true,cond_false]
  unfold ref06_Scan_j1 ref06_double ref06_single
  simp only [b34,wrap_s i (by omega)]
  by_cases c34:s[i] = 34
  ·obtain ⟨r,r',h1,h2,h3,h5⟩:=scan34 (n + 1) s hs n (i + 1) [] (by omega) (by simp)
   rw [c34]
   have h1:quote_Scan_l1 (n + 1) s ((34:UInt8).toNat:Int) (n + 1) ((i + 1:Nat):Int) [] = some r:=h1
   simp only [h1,h2,decide_true,Bool.not_true,cond_false,Bool.false_eq_true,if_false,if_true,Option.bind_some]
   refine ⟨finq r,?_,?_,h5.le (by simp)⟩
   ·cases r <;> rfl
   ·rw [h3]
    cases r' with
    | inl _=>rfl
    | inr o=>obtain ⟨o1,o2,o3⟩:=o; cases o3 <;> rfl
  ·by_cases c39:s[i] = 39
   ·obtain ⟨r,r',h1,h2,h3,h5⟩:=scan39 (n + 1) s hs n (i + 1) [] (by omega) (by simp)
    rw [c39]
    have h1:quote_Scan_l1 (n + 1) s ((39:UInt8).toNat:Int) (n + 1) ((i + 1:Nat):Int) [] = some r:=h1
    have e1:decide ((39:UInt8) = 34) = false:=by decide
    have e2:decide ((39:UInt8) = 39) = true:=by decide
    simp only [h1,h2,e1,e2,Bool.not_true,Bool.not_false,cond_true,Bool.false_eq_true,if_false,Option.bind_some]
    refine ⟨finq r,?_,?_,h5.le (by simp)⟩
    ·cases r <;> rfl
    ·rw [h3]
     cases r' with
     | inl _=>rfl
     | inr o=>obtain ⟨o1,o2,o3⟩:=o; cases o3 <;> rfl
   ·exact ⟨([],0,2),by simp [c34,c39],by simp [c34,c39],fun e=>by cases e⟩
 ·have d:(bif (decide (at_ < 0)) then true else (decide (at_ ≥ (List.length s:Int)))) = true:=by
   by_cases h0:at_ < 0
   ·simp [h0]
   ·have:at_ ≥ (s.length:Int):=by omega
    simp [h0,this]
  exact ⟨([],0,2),by simp only [d,lett]; simp,by simp only [d,lett]; simp,fun e=>by cases e⟩
theorem trimL (l:BS):Lib.trimLeftB l 32 = l.dropWhile (· == 32):=rfl
def ind (l:BS):Nat:=(l.takeWhile (· == 32)).length
theorem ind_le (l:BS):ind l ≤ l.length:=by
 unfold ind
 have:=List.takeWhile_append_dropWhile (p:=fun c:UInt8=>c == 32) (l:=l)
 have h:=congrArg List.length this
 rw [List.length_append] at h; omega
theorem drop_ind (l:BS):l.drop (ind l) = l.dropWhile (· == 32):=by
 have:=List.takeWhile_append_dropWhile (p:=fun c:UInt8=>c == 32) (l:=l)
 have h2:(l.takeWhile (· == 32) ++ l.dropWhile (· == 32)).drop (ind l) = l.dropWhile (· == 32):=List.drop_left
 rwa [this] at h2
theorem len_trim (l:BS):(Lib.trimLeftB l 32).length = l.length - ind l:=by
 rw [trimL,← drop_ind,List.length_drop]
theorem ind_cons (c:UInt8) (l:BS):ind (c :: l) = if c = 32 then ind l + 1 else 0:=by
 unfold ind
 by_cases h:c = 32
 ·subst h; simp
 ·rw [if_neg h,List.takeWhile_cons]; simp [h]
def trimR (l:BS):BS:=(l.reverse.dropWhile (· == 32)).reverse
theorem trimR_snoc (l:BS) (c:UInt8):trimR (l ++ [c]) = if c = 32 then trimR l else l ++ [c]:=by
 unfold trimR
 rw [List.reverse_append,List.reverse_singleton,List.singleton_append,List.dropWhile_cons]
 by_cases h:c = 32
 ·rw [if_pos h,if_pos (by simp [h])]
 ·rw [if_neg h,if_neg (by simpa using h),List.reverse_cons,List.reverse_reverse]
theorem say_l2 (n:Nat):∀ (k:Nat) (s:BS),s.length < k → s.length ≤ 100000 → ref07_Say_l2 n k s = some (trimR s)
 | 0,s,h,_=>by omega
 | k + 1,s,h,hs=>by
  rw [ref07_Say_l2]
  rcases List.eq_nil_or_concat s with rfl | ⟨l,c,rfl⟩
  ·rfl
  ·rw [List.concat_eq_append] at h hs ⊢
   have hl:(l ++ [c]).length = l.length + 1:=by simp
   have hw:IntKind.wrap .i64 (((l ++ [c]).length:Int) - 1) = (l.length:Int):=by rw [wrap_p _ (by omega) (by omega),hl]; rfl
   have hi:l.length < (l ++ [c]).length:=by omega
   have hg:decide (((l ++ [c]).length:Int) > 0) = true:=decide_eq_true (by omega)
   have hat:(l ++ [c])[l.length] = c:=by simp
   rw [hw,in_i hi,Bool.or_true,if_pos rfl,hg,cond_true,at_i hi,hat,le_i (by omega),tn,List.take_left,trimR_snoc]
   have hb:((c.toNat:Int) == 32) = decide (c = 32):=beq_byte c 32 (by decide)
   simp only [lett,hb,if_true]
   by_cases hc:c = 32
   ·rw [if_pos (decide_eq_true hc),if_pos hc]
    exact say_l2 n k l (by omega) (by omega)
   ·rw [if_neg (by simpa using hc),if_neg hc]
def bef (s:BS) (i:Nat):UInt8:=if 0 < i then (s[i - 1]?.getD 0) else 32
theorem b123 (c:UInt8):((c.toNat:Int) == 123) = decide (c = 123):=beq_byte c 123 (by decide)
theorem b91 (c:UInt8):((c.toNat:Int) == 91) = decide (c = 91):=beq_byte c 91 (by decide)
theorem b44 (c:UInt8):((c.toNat:Int) == 44) = decide (c = 44):=beq_byte c 44 (by decide)
theorem m34 (c:UInt8):((c.toNat:Int) != 34) = !decide (c = 34):=by rw [← b34]; rfl
theorem m39 (c:UInt8):((c.toNat:Int) != 39) = !decide (c = 39):=by rw [← b39]; rfl
def quo (c b:UInt8):Bool:=(decide (c = 34) || decide (c = 39)) && (decide (b = 32) || decide (b = 91) || decide (b = 123) || decide (b = 44))
def rem (c b:UInt8):Bool:=decide (c = 35) && decide (b = 32)
theorem prev_in {s:BS} {i:Nat} (h:i < s.length) (h0:0 < i) (hs:s.length ≤ 100000):(decide (0 ≤ (IntKind.wrap .i64 ((i:Int) - 1)) ∧ (IntKind.wrap .i64 ((i:Int) - 1)) < (List.length s:Int))) = true ∧ (s[Int.toNat (IntKind.wrap .i64 ((i:Int) - 1))]?.getD 0) = bef s i:=by
 rw [wrap_p i (by omega) h0]
 refine ⟨in_i (by omega),?_⟩
 unfold bef; rw [if_pos h0,tn]
theorem begins_eq (n:Nat) (s:BS) (i:Nat) (h:i < s.length) (hs:s.length ≤ 100000):ref07_begins n s (i:Int) = some (if rem s[i] (bef s i) = true then 2 else if quo s[i] (bef s i) = true then 1 else 0):=by
 have h1:ref07_begins_j1 n s (i:Int) 32 (decide ((i:Int) > 0)) = some ((bef s i).toNat:Int):=by
  unfold ref07_begins_j1
  by_cases h0:0 < i
  ·rw [if_pos (decide_eq_true (by omega)),if_pos (prev_in h h0 hs).1,(prev_in h h0 hs).2]
  ·rw [if_neg (by simp; omega),bef,if_neg h0]; rfl
 unfold ref07_begins
 rw [h1,Option.bind_some,in_i h,at_i h]
 generalize bef s i = b
 generalize s[i] = c
 simp only [Bool.or_true,if_true,lett,b35,b32,b91,b123,b44,m34,m39,rem,quo]
 by_cases c35:c = 35
 ·subst c35
  by_cases h32:b = 32
  ·simp [h32]
  ·simp [h32]
 ·by_cases c34:c = 34
  ·subst c34
   by_cases h32:b = 32 <;> by_cases h91:b = 91 <;> by_cases h123:b = 123 <;> by_cases h44:b = 44 <;> simp [h32,h91,h123,h44]
  ·by_cases c39:c = 39
   ·subst c39
    by_cases h32:b = 32 <;> by_cases h91:b = 91 <;> by_cases h123:b = 123 <;> by_cases h44:b = 44 <;> simp [h32,h91,h123,h44]
   ·simp [c35,c34,c39]
theorem low_good:∀ c:UInt8,(bif (decide ((c.toNat:Int) < 32)) then true else ((c.toNat:Int) == 127)) = !good c:=byte_all (by decide +kernel)
theorem ne32 (c:UInt8):((c.toNat:Int) != 32) = !decide (c = 32):=by rw [← b32]; rfl
theorem ibq:∀ b:UInt8,decide ((Lib.indexByte ([91,123,44]:List UInt8) (Int.toNat (b.toNat:Int)).toUInt8) ≥ 0) = (decide (b = 91) || decide (b = 123) || decide (b = 44)):=byte_all (by decide +kernel)
theorem good_quote:∀ c:UInt8,(c = 34 ∨ c = 39 ∨ c = 35) → good c = true:=byte_all (by decide +kernel)
theorem say_j3 (n:Nat) (s:BS) (i e:Nat) (hn:20000 ≤ n) (h:i < s.length) (hs:s.length ≤ 10000) (he:e ≤ i):∃ r,quote_Scan n s (i:Int) = some r ∧ ref06_Scan n s (i:Int) = some r ∧ Nx s i r ∧
  line_say_j3 n s (i:Int) (e:Int) (bif ((i:Int) == 0) then true else (((s[Int.toNat (IntKind.wrap .i64 ((i:Int) - 1))]?.getD 0).toNat:Int) == 32)) (s[i].toNat:Int) =
   some (if rem s[i] (bef s i) = true then .inr (.inr (s.take e,true)) else if quo s[i] (bef s i) = true then (if (r.2.2 != 0) = true then .inr (.inr ([],false)) else .inr (.inl (r.2.1,r.2.1)))
    else if good s[i] = false then .inr (.inr ([],false)) else if s[i] = 32 then .inl ((i:Int),(e:Int)) else .inl ((i:Int),((i + 1:Nat):Int))):=by
 obtain ⟨r,h1,h2,h3⟩:=scan_eq n s (i:Int) hs hn ⟨by show -9223372036854775808 ≤ (i:Int); omega,by show (i:Int) ≤ 9223372036854775807; omega⟩
 rw [tn] at h3
 refine ⟨r,h1,h2,h3,?_⟩
 have hfirst:(bif ((i:Int) == 0) then true else (((s[Int.toNat (IntKind.wrap .i64 ((i:Int) - 1))]?.getD 0).toNat:Int) == 32)) = decide (bef s i = 32):=by
  by_cases h0:0 < i
  ·have:((i:Int) == 0) = false:=by rw [beq_eq_false_iff_ne]; omega
   rw [this,cond_false,(prev_in h h0 (by omega)).2,b32]
  ·have:i = 0:=by omega
   subst this; rfl
 rw [hfirst,line_say_j3]
 have hchk:((!((decide (bef s i = 32) == false) && ((bif ((s[i].toNat:Int) == 34) then true else ((s[i].toNat:Int) == 39)) == true)) || decide (0 ≤ (IntKind.wrap .i64 ((i:Int) - 1)) ∧ (IntKind.wrap .i64 ((i:Int) - 1)) < (List.length s:Int)))) = true:=by
  by_cases h0:0 < i
  ·rw [(prev_in h h0 (by omega)).1,Bool.or_true]
  ·have:bef s i = 32:=by unfold bef; rw [if_neg h0]
   simp [this]
 have hlast:decide (bef s i = 32) = false → decide ((Lib.indexByte ([91,123,44]:List UInt8) (Int.toNat ((s[Int.toNat (IntKind.wrap .i64 ((i:Int) - 1))]?.getD 0).toNat:Int)).toUInt8) ≥ 0) = (decide (bef s i = 91) || decide (bef s i = 123) || decide (bef s i = 44)):=by
  intro hf
  have h0:0 < i:=by
   rcases Nat.eq_zero_or_pos i with h0 | h0
   ·subst h0; cases hf
   ·exact h0
  rw [(prev_in h h0 (by omega)).2,ibq]
 simp only [tn] at hlast
 rw [hchk,h1,wrap_s i (by omega)]
 have hle:decide (0 ≤ (e:Int) ∧ (e:Int) ≤ (List.length s:Int)) = true:=le_i (by omega)
 simp only [b35,b34,b39,low_good,ne32,hle,if_true,lett,Option.bind_some,tn]
 generalize hb:bef s i = b at hlast ⊢
 generalize hc:s[i] = c
 unfold rem quo
 by_cases c35:c = 35
 ·subst c35
  by_cases h32:b = 32
  ·simp [h32]
  ·have hg:good 35 = true:=by decide
   simp [h32,hg]
 ·by_cases cq:c = 34 ∨ c = 39
  ·have hq:(bif decide (c = 34) then true else decide (c = 39)) = true:=by rcases cq with e | e <;> simp [e]
   have hq2:(decide (c = 34) || decide (c = 39)) = true:=by rcases cq with e | e <;> simp [e]
   have hg:good c = true:=good_quote c (by rcases cq with e | e <;> simp [e])
   have hn32:c ≠ 32:=by rcases cq with e | e <;> rw [e] <;> decide
   rw [decide_eq_false c35,hq,hq2]
   by_cases h32:b = 32
   ·simp only [decide_eq_true h32,cond_true,cond_false,Bool.false_and,Bool.false_eq_true,if_false,if_true,Bool.true_or,Bool.true_and]
    cases (r.2.2 != 0) <;> rfl
   ·rw [decide_eq_false h32] at hlast ⊢
    have hlast:=hlast rfl
    simp only [cond_true,cond_false,hlast,Bool.false_and,Bool.false_or,Bool.true_and,Bool.false_eq_true,if_false]
    by_cases hx:(decide (b = 91) || decide (b = 123) || decide (b = 44)) = true
    ·rw [hx]
     simp only [if_true]
     cases (r.2.2 != 0) <;> rfl
    ·have hx:(decide (b = 91) || decide (b = 123) || decide (b = 44)) = false:=by simpa using hx
     rw [hx]
     simp [hg,hn32]
  ·simp only [not_or] at cq
   have hq:(bif decide (c = 34) then true else decide (c = 39)) = false:=by simp [cq.1,cq.2]
   have hq2:(decide (c = 34) || decide (c = 39)) = false:=by simp [cq.1,cq.2]
   rw [decide_eq_false c35,hq,hq2]
   cases hg:good c
   ·simp
   ·by_cases hc32:c = 32
    ·simp [hc32]
    ·simp [hc32]
theorem take_succ_at {s:BS} {i:Nat} (h:i < s.length):s.take (i + 1) = s.take i ++ [s[i]]:=List.take_succ_eq_append_getElem h
theorem say_all (n:Nat) (s:BS) (hn:20000 ≤ n) (hs:s.length ≤ 10000):∀ (k i e:Nat),i ≤ s.length → s.length - i < k → e ≤ i → s.take e = trimR (s.take i) → ∃ t,line_say_g1_0 n k s (i:Int) (e:Int) = some t ∧ t.1.length ≤ s.length ∧ ∃ r,ref07_Say_l1 n k s (i:Int) = some r ∧
  match r with | .inl s'=>t = (trimR s',true) ∧ s'.length ≤ s.length | .inr r=>t = r
 | 0,i,e,_,h,_,_=>by omega
 | k + 1,i,e,h1,h2,he,hinv=>by
  rw [line_say_g1_0,ref07_Say_l1]
  have hte:(s.take e).length ≤ s.length:=by rw [List.length_take]; omega
  by_cases h:i < s.length
  ·have hne:((i:Int) == (s.length:Int)) = false:=by rw [eq_i]; exact decide_eq_false (by omega)
   obtain ⟨r,q1,q2,q3,q4⟩:=say_j3 n s i e hn h hs he
   have hchk:(!(((i:Int) == 0) == false) || decide (0 ≤ (IntKind.wrap .i64 ((i:Int) - 1)) ∧ (IntKind.wrap .i64 ((i:Int) - 1)) < (List.length s:Int))) = true:=by
    by_cases h0:0 < i
    ·rw [(prev_in h h0 (by omega)).1,Bool.or_true]
    ·have:i = 0:=by omega
     subst this; rfl
   rw [hne,if_neg Bool.false_ne_true,if_pos hchk,if_pos (in_i h),at_i h,q4,lt_i h,if_pos rfl,begins_eq n s i h (by omega),Option.bind_some,Option.bind_some]
   by_cases hr:rem s[i] (bef s i) = true
   ·rw [if_pos hr,if_pos hr,if_pos (by decide:((2:Int) == 2) = true),if_pos (le_i (by omega)),tn]
    exact ⟨_,rfl,hte,_,rfl,by rw [hinv],by rw [List.length_take]; omega⟩
   ·rw [if_neg hr,if_neg hr]
    by_cases hq:quo s[i] (bef s i) = true
    ·rw [if_pos hq,if_pos hq,if_neg (by decide:¬ ((1:Int) == 2) = true),if_pos (by decide:((1:Int) == 1) = true),q2,Option.bind_some]
     by_cases hz:r.2.2 = 0
     ·have hz':(r.2.2 != 0) = false:=by rw [hz]; rfl
      obtain ⟨j,f1,f2,f3,f4⟩:=q3 hz
      rw [hz',if_neg Bool.false_ne_true,if_neg Bool.false_ne_true,f1]
      have hj:j - 1 < s.length:=by omega
      rw [List.getElem?_eq_getElem hj,Option.getD_some] at f4
      refine say_all n s hn hs k j j f3 (by omega) (Nat.le_refl _) ?_
      rw [show j = (j - 1) + 1 by omega,take_succ_at hj,trimR_snoc,if_neg f4]
     ·have hz':(r.2.2 != 0) = true:=by simpa using hz
      rw [hz',if_pos rfl,if_pos rfl]
      exact ⟨_,rfl,by simp,_,rfl,rfl⟩
    ·rw [if_neg hq,if_neg hq,if_neg (by decide:¬ ((0:Int) == 2) = true),if_neg (by decide:¬ ((0:Int) == 1) = true),if_pos (in_i h),Good_good]
     cases hg:good s[i] with
     | false=>exact ⟨_,rfl,by simp,_,rfl,rfl⟩
     | true =>
      rw [if_neg (by decide:¬ true = false),if_neg (by decide:¬ (!true) = true),wrap_s i (by omega)]
      by_cases hb:s[i] = 32
      ·rw [if_pos hb]
       show ∃ t,line_say_g1_0 n k s (IntKind.wrap .i64 ((i:Int) + 1)) (e:Int) = some t ∧ _
       rw [wrap_s i (by omega)]
       exact say_all n s hn hs k (i + 1) e (by omega) (by omega) (by omega) (by rw [take_succ_at h,trimR_snoc,if_pos hb]; exact hinv)
      ·rw [if_neg hb]
       show ∃ t,line_say_g1_0 n k s (IntKind.wrap .i64 ((i:Int) + 1)) ((i + 1:Nat):Int) = some t ∧ _
       rw [wrap_s i (by omega)]
       exact say_all n s hn hs k (i + 1) (i + 1) (by omega) (by omega) (by omega) (by rw [take_succ_at h,trimR_snoc,if_neg hb])
  ·have hi:i = s.length:=by omega
   have heq:((i:Int) == (s.length:Int)) = true:=by rw [eq_i]; exact decide_eq_true hi
   rw [heq,if_pos rfl,if_pos (le_i (by omega)),nlt_i (Nat.not_lt.1 h),if_neg Bool.false_ne_true,tn]
   exact ⟨_,rfl,hte,_,rfl,by rw [hinv,hi,List.take_length],Nat.le_refl _⟩
theorem say_eq (n:Nat) (s:BS) (hn:20000 ≤ n) (hs:s.length ≤ 10000):∃ t,line_say n s = some t ∧ ref07_Say n s = some t ∧ t.1.length ≤ s.length:=by
 obtain ⟨t,h1,h2,r,h3,h4⟩:=say_all n s hn hs n 0 0 (by omega) (by omega) (by omega) rfl
 refine ⟨t,?_,?_,h2⟩
 ·unfold line_say
  obtain ⟨k,rfl⟩:∃ k,n = k + 1:=⟨n - 1,by omega⟩
  have:line_say_g1_e (k + 1) (k + 1) s = line_say_g1_0 (k + 1) (k + 1) s 0 0:=by
   rw [line_say_g1_e,line_say_g1_0]; rfl
  have h1:line_say_g1_0 (k + 1) (k + 1) s 0 0 = some t:=h1
  rw [this,h1]; rfl
 ·unfold ref07_Say
  have h3:ref07_Say_l1 n n s 0 = some r:=h3
  rw [h3,Option.bind_some]
  cases r with
  | inl s' =>
   rw [Sum.elim_inl,say_l2 n n s' (by have:=h4.2; omega) (by have:=h4.2; omega),h4.1]; rfl
  | inr r=>rw [h4]; rfl
def rowOf (s:BS):BS × BS:=match upto 10 s with | none=>(s,[]) | some p=>p
theorem rowOf_cons (c:UInt8) (s:BS):rowOf (c :: s) = if c = 10 then ([],s) else (c :: (rowOf s).1,(rowOf s).2):=by
 unfold rowOf
 rw [upto]
 by_cases h:c = 10
 ·rw [if_pos h,if_pos h]
 ·rw [if_neg h,if_neg h]
  cases upto 10 s <;> rfl
theorem rowOf_len (s:BS):(rowOf s).1.length ≤ s.length ∧ (s ≠ [] → (rowOf s).2.length < s.length) ∧ (rowOf s).2.length ≤ s.length:=by
 unfold rowOf
 cases h:upto 10 s with
 | none=>exact ⟨Nat.le_refl _,fun hs=>List.length_pos_iff.2 hs,Nat.zero_le _⟩
 | some p =>
  obtain ⟨p,q⟩:=p
  have:=congrArg List.length (upto_some h).1
  simp at this
  exact ⟨by simp; omega,fun _=>by simp; omega,by simp; omega⟩
theorem rowOf_take (s:BS):s.take (rowOf s).1.length = (rowOf s).1 ∧ (if (rowOf s).1.length < s.length then s.drop ((rowOf s).1.length + 1) else []) = (rowOf s).2:=by
 unfold rowOf
 cases h:upto 10 s with
 | none=>exact ⟨List.take_length,by simp⟩
 | some p =>
  obtain ⟨p,q⟩:=p
  have hs:=(upto_some h).1
  simp only
  rw [hs]
  refine ⟨List.take_left,?_⟩
  rw [if_pos (by simp),← List.drop_drop,List.drop_left]; rfl
theorem b10' (c:UInt8):((c.toNat:Int) != 10) = !decide (c = 10):=by rw [← b10]; rfl
theorem sl2 (n:Nat) (s:BS) (out:List S_line_Line) (no:Int) (hs:s.length ≤ 10000):∀ (k i:Nat),i ≤ s.length → s.length - i < k → ref07_Split_l2 n s out no k (i:Int) = some ((i + (rowOf (s.drop i)).1.length:Nat):Int)
 | 0,i,_,h=>by omega
 | k + 1,i,h1,h2=>by
  rw [ref07_Split_l2]
  by_cases h:i < s.length
  ·rw [if_pos (by rw [in_i h,Bool.or_true]),lt_i h,cond_true,at_i h,b10',drop_at h,rowOf_cons]
   by_cases hc:s[i] = 10
   ·rw [if_neg (by simp [hc]),if_pos hc]; rfl
   ·rw [if_pos (by simp [hc]),if_neg hc,wrap_s i (by omega),sl2 n s out no hs k (i + 1) (by omega) (by omega)]
    simp only [List.length_cons]
    rw [show i + 1 + (rowOf (List.drop (i + 1) s)).1.length = i + ((rowOf (List.drop (i + 1) s)).1.length + 1) by omega]
  ·rw [if_pos (by rw [nlt_i (Nat.not_lt.1 h)]; rfl),nlt_i (Nat.not_lt.1 h),cond_false,if_neg Bool.false_ne_true,List.drop_eq_nil_of_le (by omega)]; rfl
theorem sl4 (n:Nat) (s:BS) (out:List S_line_Line) (no:Int) (row:BS) (hs:row.length ≤ 10000):∀ (k i:Nat),i ≤ row.length → row.length - i < k → ref07_Split_l4 n s out no row k (i:Int) = some ((i + ind (row.drop i):Nat):Int)
 | 0,i,_,h=>by omega
 | k + 1,i,h1,h2=>by
  rw [ref07_Split_l4]
  by_cases h:i < row.length
  ·rw [if_pos (by rw [in_i h,Bool.or_true]),lt_i h,cond_true,at_i h,b32,drop_at h,ind_cons]
   by_cases hc:row[i] = 32
   ·rw [if_pos (decide_eq_true hc),if_pos hc,wrap_s i (by omega),sl4 n s out no row hs k (i + 1) (by omega) (by omega)]
    rw [show i + 1 + ind (List.drop (i + 1) row) = i + (ind (List.drop (i + 1) row) + 1) by omega]
   ·rw [if_neg (by simpa using hc),if_neg hc]; rfl
  ·rw [if_pos (by rw [nlt_i (Nat.not_lt.1 h)]; rfl),nlt_i (Nat.not_lt.1 h),cond_false,if_neg Bool.false_ne_true,List.drop_eq_nil_of_le (by omega)]; rfl
theorem cap33 {a:Nat} (h:a ≤ 1000000):decide ((a + 1) * (32 + 1) ≤ limit) = true:=decide_eq_true (by show (a + 1) * (32 + 1) ≤ 140737488355328; omega)
theorem split_l (n:Nat) (hn:20000 ≤ n):∀ (k:Nat) (s:BS) (out:List S_line_Line) (no:Nat),s.length < k → s.length ≤ 10000 → out.length ≤ no → no + s.length ≤ 10000 → ∃ r,line_Split_l1 n k s out ((no + 1:Nat):Int) = some r ∧ ref07_Split_l1 n k s out (no:Int) = some r ∧ (∀ o,r = .inl o → o.length ≤ 10000)
 | 0,s,out,no,h,_,_,_=>by omega
 | k + 1,s,out,no,h1,h2,h3,h4=>by
  rw [line_Split_l1,ref07_Split_l1]
  by_cases hs:s = []
  ·subst hs
   exact ⟨.inl out,rfl,rfl,fun o e=>by cases e; omega⟩
  ·have hpos:0 < s.length:=List.length_pos_iff.2 hs
   obtain ⟨g1,g2,g3⟩:=rowOf_len s
   have g2:=g2 hs
   obtain ⟨g4,g5⟩:=rowOf_take s
   have e1:(s == []) = false:=by simpa using hs
   have e2:decide ((s.length:Int) > 0) = true:=decide_eq_true (by omega)
   have hw:=wrap_s no (by omega)
   have hcut:(Lib.cut s [10]).1 = (rowOf s).1 ∧ (Lib.cut s [10]).2.1 = (rowOf s).2:=by
    rw [cut_eq]; unfold rowOf
    cases upto 10 s <;> exact ⟨rfl,rfl⟩
   have l2:=sl2 n s out ((no + 1:Nat):Int) h2 n 0 (by omega) (by omega)
   have l2:ref07_Split_l2 n s out ((no + 1:Nat):Int) n 0 = some (((rowOf s).1.length:Nat):Int):=by rw [show (0:Int) = ((0:Nat):Int) from rfl,l2,List.drop_zero,Nat.zero_add]
   rw [e1,e2,if_pos rfl,if_pos (by decide),hw,l2,Option.bind_some,if_pos (le_i g1),tn,g4]
   have j3:ref07_Split_j3 n s out ((no + 1:Nat):Int) (((rowOf s).1.length:Nat):Int) (rowOf s).1 (decide ((((rowOf s).1.length:Nat):Int) < (s.length:Int))) = some (rowOf s).2:=by
    rw [ref07_Split_j3,wrap_s _ (by omega)]
    by_cases hl:(rowOf s).1.length < s.length
    ·rw [if_pos hl] at g5
     rw [if_pos (lt_i hl),if_pos (le_i (by omega)),tn,g5]
    ·rw [if_neg hl] at g5
     rw [if_neg (by rw [nlt_i (Nat.not_lt.1 hl)]; exact Bool.false_ne_true),← g5]
   have hil:=ind_le (rowOf s).1
   have l4:ref07_Split_l4 n (rowOf s).2 out ((no + 1:Nat):Int) (rowOf s).1 n 0 = some ((ind (rowOf s).1:Nat):Int):=by
    have:=sl4 n (rowOf s).2 out ((no + 1:Nat):Int) (rowOf s).1 (by omega) n 0 (by omega) (by omega)
    rw [show (0:Int) = ((0:Nat):Int) from rfl,this,List.drop_zero,Nat.zero_add]
   rw [j3,Option.bind_some,l4,Option.bind_some,if_pos (le_i hil),tn]
   obtain ⟨t,t1,t2,t3⟩:=say_eq n ((rowOf s).1.drop (ind (rowOf s).1)) hn (by rw [List.length_drop]; omega)
   rw [List.length_drop] at t3
   have hx:IntKind.wrap .i64 (((rowOf s).1.length:Int) - ((Lib.trimLeftB (rowOf s).1 32).length:Int)) = ((ind (rowOf s).1:Nat):Int):=by rw [len_trim,wrap_id _ (by omega) (by omega)]; omega
   have j2:line_Split_j2 n s out ((no + 1:Nat):Int) = some (if (bif (!t.2) then true else (bif (((ind (rowOf s).1:Nat):Int) == 0) then (bif (t.1 == [45,45,45]) then true else (t.1 == [46,46,46])) else false)) = true then .inr (((no + 1:Nat):Int),3)
     else if (!(t.1 == [])) = true then .inl ((rowOf s).2,out ++ [S_line_Line.mk ((no + 1:Nat):Int) ((ind (rowOf s).1:Nat):Int) t.1]) else .inl ((rowOf s).2,out)):=by
    rw [line_Split_j2,if_pos (decide_eq_true (by omega)),hcut.1,hcut.2,hx]
    simp only [lett]
    have hcap:decide ((List.length out + List.length ([S_line_Line.mk ((no + 1:Nat):Int) ((ind (rowOf s).1:Nat):Int) t.1]:List S_line_Line)) * (32 + 1) ≤ limit) = true:=cap33 (by omega)
    rw [if_pos (le_i hil),tn,t1,Option.bind_some,if_pos hcap]
    split
    ·rfl
    ·split <;> rfl
   rw [j2,t2,Option.bind_some,Option.bind_some]
   simp only [lett]
   by_cases hbad:(bif (!t.2) then true else (bif (((ind (rowOf s).1:Nat):Int) == 0) then (bif (t.1 == [45,45,45]) then true else (t.1 == [46,46,46])) else false)) = true
   ·rw [if_pos hbad,if_pos hbad]
    exact ⟨.inr (((no + 1:Nat):Int),3),rfl,rfl,fun o e=>by cases e⟩
   ·rw [if_neg hbad,if_neg hbad]
    have hcap:decide ((List.length out + List.length ([S_line_Line.mk ((no + 1:Nat):Int) ((ind (rowOf s).1:Nat):Int) t.1]:List S_line_Line)) * (32 + 1) ≤ limit) = true:=cap33 (by omega)
    by_cases ht:t.1 = []
    ·have ht1:(t.1 == []) = true:=by simpa using ht
     have ht2:decide ((t.1.length:Int) > 0) = false:=by rw [ht]; rfl
     rw [ht1,ht2,if_neg (by decide),if_neg Bool.false_ne_true,Sum.elim_inl]
     simp only
     rw [wrap_s (no + 1) (by omega)]
     exact split_l n hn k (rowOf s).2 out (no + 1) (by omega) (by omega) (by omega) (by omega)
    ·have ht1:(t.1 == []) = false:=by simpa using ht
     have ht2:decide ((t.1.length:Int) > 0) = true:=decide_eq_true (by have:=List.length_pos_iff.2 ht; omega)
     rw [ht1,ht2,if_pos (by decide),if_pos rfl,if_pos hcap,Sum.elim_inl]
     simp only
     rw [wrap_s (no + 1) (by omega)]
     exact split_l n hn k (rowOf s).2 _ (no + 1) (by omega) (by omega) (by simp; omega) (by omega)
theorem Split_eq (n:Nat) (s:BS) (hn:20000 ≤ n):∃ r,line_Split n s = some r ∧ ref07_Split n s = some r ∧ r.1.length ≤ 10000:=by
 unfold line_Split ref07_Split
 by_cases h:(s.length:Int) > 8192
 ·rw [if_pos (decide_eq_true h),if_pos (decide_eq_true h)]
  exact ⟨_,rfl,rfl,by simp⟩
 ·rw [if_neg (by simpa using h),if_neg (by simpa using h)]
  obtain ⟨r,h1,h2,h3⟩:=split_l n hn n s [] 0 (by omega) (by omega) (by simp) (by omega)
  have h1:line_Split_l1 n n s [] 1 = some r:=h1
  have h2:ref07_Split_l1 n n s [] 0 = some r:=h2
  rw [h1,h2,Option.bind_some]
  cases r with
  | inl o=>exact ⟨_,rfl,rfl,h3 o rfl⟩
  | inr o=>exact ⟨_,rfl,rfl,by simp⟩
theorem split_at (n:Nat) (hn:20000 ≤ n) (k:Nat) (s:BS) (out:List S_line_Line) (no:Nat) (t:BS × Bool) (hs:s ≠ []) (h2:s.length ≤ 10000) (h3:out.length ≤ no) (h4:no + s.length ≤ 10000) (ht:line_say n ((rowOf s).1.drop (ind (rowOf s).1)) = some t) :
  line_Split_l1 n (k + 1) s out ((no + 1:Nat):Int) = (if (bif (!t.2) then true else (bif (((ind (rowOf s).1:Nat):Int) == 0) then (bif (t.1 == [45,45,45]) then true else (t.1 == [46,46,46])) else false)) = true then some (.inr (((no + 1:Nat):Int),3))
   else if t.1 = [] then line_Split_l1 n k (rowOf s).2 out ((no + 1 + 1:Nat):Int) else line_Split_l1 n k (rowOf s).2 (out ++ [S_line_Line.mk ((no + 1:Nat):Int) ((ind (rowOf s).1:Nat):Int) t.1]) ((no + 1 + 1:Nat):Int)):=by
 have hpos:=List.length_pos_iff.2 hs
 obtain ⟨g1,g2,g3⟩:=rowOf_len s
 have e1:(s == []) = false:=by simpa using hs
 have hw:=wrap_s no (by omega)
 have hcut:(Lib.cut s [10]).1 = (rowOf s).1 ∧ (Lib.cut s [10]).2.1 = (rowOf s).2:=by
  rw [cut_eq]; unfold rowOf
  cases upto 10 s <;> exact ⟨rfl,rfl⟩
 have hil:=ind_le (rowOf s).1
 have hx:IntKind.wrap .i64 (((rowOf s).1.length:Int) - ((Lib.trimLeftB (rowOf s).1 32).length:Int)) = ((ind (rowOf s).1:Nat):Int):=by rw [len_trim,wrap_id _ (by omega) (by omega)]; omega
 have hcap:decide ((List.length out + List.length ([S_line_Line.mk ((no + 1:Nat):Int) ((ind (rowOf s).1:Nat):Int) t.1]:List S_line_Line)) * (32 + 1) ≤ limit) = true:=cap33 (by omega)
 have j2:line_Split_j2 n s out ((no + 1:Nat):Int) = some (if (bif (!t.2) then true else (bif (((ind (rowOf s).1:Nat):Int) == 0) then (bif (t.1 == [45,45,45]) then true else (t.1 == [46,46,46])) else false)) = true then .inr (((no + 1:Nat):Int),3)
   else if (!(t.1 == [])) = true then .inl ((rowOf s).2,out ++ [S_line_Line.mk ((no + 1:Nat):Int) ((ind (rowOf s).1:Nat):Int) t.1]) else .inl ((rowOf s).2,out)):=by
  rw [line_Split_j2,if_pos (decide_eq_true (by omega)),hcut.1,hcut.2,hx]
  simp only [lett]
  rw [if_pos (le_i hil),tn,ht,Option.bind_some,if_pos hcap]
  split
  ·rfl
  ·split <;> rfl
 rw [line_Split_l1,e1,if_pos (by decide:(!false) = true),j2,Option.bind_some]
 by_cases hbad:(bif (!t.2) then true else (bif (((ind (rowOf s).1:Nat):Int) == 0) then (bif (t.1 == [45,45,45]) then true else (t.1 == [46,46,46])) else false)) = true
 ·rw [if_pos hbad,if_pos hbad]; rfl
 ·rw [if_neg hbad,if_neg hbad]
  by_cases ht0:t.1 = []
  ·have ht1:(t.1 == []) = true:=by simpa using ht0
   rw [ht1,if_neg (by decide),if_pos ht0,Sum.elim_inl]
   simp only
   rw [wrap_s (no + 1) (by omega)]
  ·have ht1:(t.1 == []) = false:=by simpa using ht0
   rw [ht1,if_pos (by decide),if_neg ht0,Sum.elim_inl]
   simp only
   rw [wrap_s (no + 1) (by omega)]
theorem bad_of (i:Nat) (t:BS):(bif (!true) then true else (bif (((i:Nat):Int) == 0) then (bif (t == [45,45,45]) then true else (t == [46,46,46])) else false)) = decide (i = 0 ∧ (t = [45,45,45] ∨ t = [46,46,46])):=by
 have h1:(((i:Nat):Int) == ((0:Nat):Int)) = decide (i = 0):=eq_i
 have h1:(((i:Nat):Int) == 0) = decide (i = 0):=h1
 rw [h1]
 by_cases a:i = 0
 ·by_cases b:t = [45,45,45]
  ·simp [a,b]
  ·by_cases c:t = [46,46,46]
   ·simp [a,c]
   ·simp [a,b,c]
 ·simp [a]
inductive Sp (n:Nat):BS → Nat → List S_line_Line → Prop
 | nil (no:Nat):Sp n [] no []
 | skip (s:BS) (no:Nat) (ls:List S_line_Line) (hs:s ≠ []) (h:line_say n ((rowOf s).1.drop (ind (rowOf s).1)) = some ([],true)) (hr:Sp n (rowOf s).2 (no + 1) ls):Sp n s no ls
 | line (s:BS) (no:Nat) (t:BS) (ls:List S_line_Line) (hs:s ≠ []) (ht:t ≠ []) (h:line_say n ((rowOf s).1.drop (ind (rowOf s).1)) = some (t,true)) (hb:¬ (ind (rowOf s).1 = 0 ∧ (t = [45,45,45] ∨ t = [46,46,46]))) (hr:Sp n (rowOf s).2 (no + 1) ls) :
   Sp n s no (S_line_Line.mk ((no + 1:Nat):Int) ((ind (rowOf s).1:Nat):Int) t :: ls)
theorem sp_of (n:Nat) (hn:20000 ≤ n):∀ (k:Nat) (s:BS) (out o:List S_line_Line) (no:Nat),s.length < k → s.length ≤ 10000 → out.length ≤ no → no + s.length ≤ 10000 → line_Split_l1 n k s out ((no + 1:Nat):Int) = some (.inl o) → ∃ ls,o = out ++ ls ∧ Sp n s no ls
 | 0,s,_,_,_,h,_,_,_,_=>by omega
 | k + 1,s,out,o,no,h1,h2,h3,h4,h=>by
  by_cases hs:s = []
  ·subst hs
   have h:some (Sum.inl out) = some (Sum.inl o:Sum (List S_line_Line) (Int × Int)):=h
   cases h
   exact ⟨[],by simp,.nil no⟩
  ·obtain ⟨g1,g2,g3⟩:=rowOf_len s
   have g2:=g2 hs
   obtain ⟨t,t1,t2,t3⟩:=say_eq n ((rowOf s).1.drop (ind (rowOf s).1)) hn (by rw [List.length_drop]; omega)
   rw [split_at n hn k s out no t hs h2 h3 h4 t1] at h
   obtain ⟨t,b⟩:=t
   cases b with
   | false=>simp only [Bool.not_false,cond_true,if_true] at h; cases h
   | true =>
    rw [bad_of] at h
    by_cases hb:ind (rowOf s).1 = 0 ∧ (t = [45,45,45] ∨ t = [46,46,46])
    ·rw [if_pos (decide_eq_true hb)] at h; cases h
    ·rw [if_neg (by simpa using hb)] at h
     simp only at h
     by_cases ht:t = []
     ·rw [if_pos ht] at h
      subst ht
      obtain ⟨ls,e1,e2⟩:=sp_of n hn k (rowOf s).2 out o (no + 1) (by omega) (by omega) (by omega) (by omega) h
      exact ⟨ls,e1,.skip s no ls hs t1 e2⟩
     ·rw [if_neg ht] at h
      obtain ⟨ls,e1,e2⟩:=sp_of n hn k (rowOf s).2 _ o (no + 1) (by omega) (by omega) (by simp; omega) (by omega) h
      exact ⟨_ :: ls,by rw [e1]; simp,.line s no t ls hs ht t1 hb e2⟩
theorem split_cases (n:Nat) (hn:20000 ≤ n) (s:BS) (hs:s.length ≤ 8192):(∃ ls,Sp n s 0 ls ∧ line_Split n s = some (ls,0,0)) ∨ ∃ no e,e ≠ 0 ∧ line_Split n s = some ([],no,e):=by
 obtain ⟨r,h1,h2,h3⟩:=split_l n hn n s [] 0 (by omega) (by omega) (by simp) (by omega)
 have hu:line_Split n s = (some r).bind fun o1=>(Sum.elim (fun o1=>some (o1,0,0)) (fun o1=>some ([],o1.1,o1.2))) o1:=by
  unfold line_Split
  rw [if_neg (by simp; omega)]
  have h1:line_Split_l1 n n s [] 1 = some r:=h1
  rw [h1]
 cases r with
 | inl o =>
  obtain ⟨ls,e1,e2⟩:=sp_of n hn n s [] o 0 (by omega) (by omega) (by simp) (by omega) h1
  rw [List.nil_append] at e1
  subst e1
  exact .inl ⟨_,e2,hu⟩
 | inr o =>
  refine .inr ⟨o.1,o.2,?_,hu⟩
  have:∀ (k:Nat) (s:BS) (out:List S_line_Line) (no:Nat),s.length < k → s.length ≤ 10000 → out.length ≤ no → no + s.length ≤ 10000 → line_Split_l1 n k s out ((no + 1:Nat):Int) = some (.inr o) → o.2 ≠ 0:=by
   intro k
   induction k with
   | zero=>intro s _ _ h; omega
   | succ k ih =>
    intro s out no h1 h2 h3 h4 h
    by_cases hs:s = []
    ·subst hs
     have h:some (Sum.inl out) = some (Sum.inr o:Sum (List S_line_Line) (Int × Int)):=h
     cases h
    ·obtain ⟨g1,g2,g3⟩:=rowOf_len s
     have g2:=g2 hs
     obtain ⟨t,t1,t2,t3⟩:=say_eq n ((rowOf s).1.drop (ind (rowOf s).1)) hn (by rw [List.length_drop]; omega)
     rw [split_at n hn k s out no t hs h2 h3 h4 t1] at h
     split at h
     ·cases h; show (3:Int) ≠ 0; decide
     ·split at h
      ·exact ih _ _ (no + 1) (by omega) (by omega) (by omega) (by omega) h
      ·exact ih _ _ (no + 1) (by omega) (by omega) (by simp; omega) (by omega) h
  exact this n s [] 0 (by omega) (by omega) (by simp) (by omega) h1
end Go.Proofs.YtefojkdckfidcaaGreatDoor.M
