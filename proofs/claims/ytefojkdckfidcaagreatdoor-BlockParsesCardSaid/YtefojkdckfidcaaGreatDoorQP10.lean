import Derived.Test.YtefojkdckfidcaaGreatDoorQMG10
import Derived.Test.YtefojkdckfidcaaGreatDoorQLoop
import Derived.Test.YtefojkdckfidcaaGreatDoorQStr
import Derived.Test.YtefojkdckfidcaaGreatDoorQRxShelf
set_option linter.all false
namespace Go.Proofs.YtefojkdckfidcaaGreatDoor.M
open Go Go.Proofs.YtefojkdckfidcaaGreatDoor.RX Go.Proofs.YtefojkdckfidcaaGreatDoor.PL
set_option maxRecDepth 100000
def good (c:UInt8):Bool:=decide (32 ≤ c.toNat) && c.toNat != 127
theorem ok_good:∀ c:UInt8,quote_ok (c.toNat:Int) = good c:=byte_all (by decide +kernel)
theorem Good_good:∀ c:UInt8,ref06_Good (c.toNat:Int) = good c:=byte_all (by decide +kernel)
theorem b34 (c:UInt8):((c.toNat:Int) == 34) = decide (c = 34):=beq_byte c 34 (by decide)
theorem b92 (c:UInt8):((c.toNat:Int) == 92) = decide (c = 92):=beq_byte c 92 (by decide)
theorem b10 (c:UInt8):((c.toNat:Int) == 10) = decide (c = 10):=beq_byte c 10 (by decide)
theorem b9 (c:UInt8):((c.toNat:Int) == 9) = decide (c = 9):=beq_byte c 9 (by decide)
theorem b39 (c:UInt8):((c.toNat:Int) == 39) = decide (c = 39):=beq_byte c 39 (by decide)
theorem b32 (c:UInt8):((c.toNat:Int) == 32) = decide (c = 32):=beq_byte c 32 (by decide)
theorem b45 (c:UInt8):((c.toNat:Int) == 45) = decide (c = 45):=beq_byte c 45 (by decide)
theorem b58 (c:UInt8):((c.toNat:Int) == 58) = decide (c = 58):=beq_byte c 58 (by decide)
theorem b35 (c:UInt8):((c.toNat:Int) == 35) = decide (c = 35):=beq_byte c 35 (by decide)
theorem b110 (c:UInt8):((c.toNat:Int) == 110) = decide (c = 110):=beq_byte c 110 (by decide)
theorem b116 (c:UInt8):((c.toNat:Int) == 116) = decide (c = 116):=beq_byte c 116 (by decide)
theorem b120 (c:UInt8):((c.toNat:Int) == 120) = decide (c = 120):=beq_byte c 120 (by decide)
theorem beq_bytes (c d:UInt8):((c.toNat:Int) == (d.toNat:Int)) = (c == d):=by
 rw [Bool.eq_iff_iff,beq_iff_eq,beq_iff_eq,← UInt8.toNat_inj]
 omega
theorem byte_eq (c d:UInt8):decide (c = d) = (c == d):=by
 rw [Bool.eq_iff_iff]; simp
def sp18:List UInt8:=[63,58,44,91,93,123,125,35,38,42,33,124,62,39,34,37,64,96]
def sp5:List UInt8:=[44,91,93,123,125]
theorem ix18:∀ c:UInt8,decide ((Lib.indexByte ([63,58,44,91,93,123,125,35,38,42,33,124,62,39,34,37,64,96]:List UInt8) (Int.toNat (c.toNat:Int)).toUInt8) ≥ 0) = sp18.contains c:=byte_all (by decide +kernel)
theorem ix5:∀ c:UInt8,decide ((Lib.indexByte ([44,91,93,123,125]:List UInt8) (Int.toNat (c.toNat:Int)).toUInt8) ≥ 0) = sp5.contains c:=byte_all (by decide +kernel)
theorem one_l (n:Nat) (c:UInt8) (L:List UInt8) (hL:L.length ≤ 100000):∀ (k i:Nat),i ≤ L.length → L.length - i < k → ref06_one_l1 n (c.toNat:Int) L k (i:Int) = some (if (L.drop i).contains c = true then .inr true else .inl ())
 | 0,i,h1,h2=>by omega
 | k + 1,i,h1,h2=>by
  rw [ref06_one_l1]
  by_cases h:i < L.length
  ·rw [if_pos (lt_i h),if_pos (in_i h),at_i h,beq_bytes,drop_at h,List.contains_cons]
   cases hc:L[i] == c with
   | true =>
    have:(c == L[i]) = true:=by rw [beq_iff_eq] at hc ⊢; exact hc.symm
    simp [this]
   | false =>
    have:(c == L[i]) = false:=by rw [beq_eq_false_iff_ne] at hc ⊢; exact fun e=>hc e.symm
    rw [this,Bool.false_or,wrap_s i (by omega),one_l n c L hL k (i + 1) (by omega) (by omega)]
    rfl
  ·rw [if_neg (by rw [nlt_i (Nat.not_lt.1 h)]; exact Bool.false_ne_true),List.drop_eq_nil_of_le (by omega)]
   rfl
theorem one_eq (n:Nat) (c:UInt8) (L:List UInt8) (hL:L.length ≤ 100000) (hn:200000 ≤ n):ref06_one n (c.toNat:Int) L = some (L.contains c):=by
 unfold ref06_one
 rw [show ((0:Int)) = ((0:Nat):Int) from rfl,one_l n c L hL n 0 (by omega) (by omega),List.drop_zero]
 cases L.contains c <;> rfl
theorem rq_l (n:Nat) (s:List UInt8) (hs:s.length ≤ 100000):∀ (k i:Nat),i ≤ s.length → s.length - i < k → quote_Row_l1 n s (s.length:Int) k (i:Int) = some (if (s.drop i).any sp5.contains = true then .inr false else .inl ())
 | 0,i,h1,h2=>by omega
 | k + 1,i,h1,h2=>by
  rw [quote_Row_l1]
  by_cases h:i < s.length
  ·simp only [lett]
   rw [if_pos (lt_i h),if_pos (in_i h),at_i h,ix5,drop_at h,List.any_cons]
   cases hc:sp5.contains s[i] with
   | true=>simp
   | false =>
    rw [Bool.false_or,wrap_s i (by omega),rq_l n s hs k (i + 1) (by omega) (by omega)]
    rfl
  ·rw [if_neg (by rw [nlt_i (Nat.not_lt.1 h)]; exact Bool.false_ne_true),List.drop_eq_nil_of_le (by omega)]
   rfl
theorem rr_l (n:Nat) (s:List UInt8) (hs:s.length ≤ 100000) (hn:200000 ≤ n):∀ (k i:Nat),i ≤ s.length → s.length - i < k → ref06_Row_l1 n s k (i:Int) = some (if (s.drop i).any sp5.contains = true then .inr false else .inl ())
 | 0,i,h1,h2=>by omega
 | k + 1,i,h1,h2=>by
  rw [ref06_Row_l1]
  by_cases h:i < s.length
  ·rw [if_pos (lt_i h),if_pos (in_i h),at_i h,one_eq n _ _ (by simp) hn,Option.bind_some,drop_at h,List.any_cons]
   show (if (sp5.contains s[i]) = true then _ else _) = _
   cases hc:sp5.contains s[i] with
   | true=>simp
   | false =>
    rw [Bool.false_or,wrap_s i (by omega),rr_l n s hs hn k (i + 1) (by omega) (by omega)]
    rfl
  ·rw [if_neg (by rw [nlt_i (Nat.not_lt.1 h)]; exact Bool.false_ne_true),List.drop_eq_nil_of_le (by omega)]
   rfl
def blankN (s:List UInt8) (j:Nat):Bool:=if h:j < s.length then s[j] == 32 else true
theorem bl (n j:Nat) (s:List UInt8):quote_Plain_1__e n (j:Int) s = some (blankN s j):=by
 unfold quote_Plain_1__e blankN
 have h0:decide ((j:Int) < 0) = false:=decide_eq_false (by omega)
 by_cases h:j < s.length
 ·have h1:decide ((j:Int) ≥ (s.length:Int)) = false:=decide_eq_false (by omega)
  rw [h0,h1,in_i h,at_i h,b32,dif_pos h,byte_eq]
  rfl
 ·have h1:decide ((j:Int) ≥ (s.length:Int)) = true:=decide_eq_true (by omega)
  rw [h0,h1,dif_neg h]
  rfl
def okAt (s:List UInt8) (i:Nat):Bool:=if h:i < s.length then good s[i] && !(s[i] == 58 && blankN s (i + 1)) && !(s[i] == 35 && blankN s (i - 1)) else true
def okFrom (s:List UInt8) (i:Nat):Bool:=(List.range' i (s.length - i)).all (okAt s)
theorem okFrom_step {s:List UInt8} {i:Nat} (h:i < s.length):okFrom s i = (okAt s i && okFrom s (i + 1)):=by
 unfold okFrom
 rw [show s.length - i = (s.length - (i + 1)) + 1 by omega,List.range'_succ,List.all_cons]
theorem okFrom_end {s:List UInt8} {i:Nat} (h:s.length ≤ i):okFrom s i = true:=by
 unfold okFrom
 rw [show s.length - i = 0 by omega]; rfl
def plr (b:Bool):Sum Unit Bool:=if b = true then .inl () else .inr false
theorem pl_l (n:Nat) (s:List UInt8) (hs:s.length ≤ 100000) (h0:∀ h:0 < s.length,s[0] ≠ 35):∀ (k i:Nat),i ≤ s.length → s.length - i < k → quote_Plain_l1 n s s (s.length:Int) k (i:Int) = some (plr (okFrom s i)) ∧ ref06_Plain_l1 n s (s.length:Int) k (i:Int) = some (plr (okFrom s i))
 | 0,i,h1,h2=>by omega
 | k + 1,i,h1,h2=>by
  rw [quote_Plain_l1,ref06_Plain_l1]
  by_cases h:i < s.length
  ·obtain ⟨hq,hr⟩:=pl_l n s hs h0 k (i + 1) (by omega) (by omega)
   rw [okFrom_step h]
   generalize okFrom s (i + 1) = r at hq hr ⊢
   have hok:okAt s i = (good s[i] && !(s[i] == 58 && blankN s (i + 1)) && !(s[i] == 35 && blankN s (i - 1))):=by unfold okAt; rw [dif_pos h]
   have hX:∃ X,plr (okAt s i && r) = X:=⟨_,rfl⟩
   obtain ⟨X,hX⟩:=hX
   rw [hX]
   rw [hok] at hX
   rw [if_pos (lt_i h),if_pos (lt_i h)]
   simp only [in_i h,at_i h,lett,b58,b35,ok_good,Good_good,if_true,Bool.or_true]
   cases hg:good s[i] with
   | false =>
    rw [hg] at hX
    obtain rfl:X = .inr false:=by rw [← hX]; simp [plr]
    exact ⟨by simp,by simp⟩
   | true =>
    rw [hg] at hX
    have hwJ:=wrap_s i (by omega)
    have bJ:=bl n (i + 1) s
    have inJ:=fun h':i + 1 < s.length=>in_i h'
    have atJ:=fun h':i + 1 < s.length=>at_i (d:=(0:UInt8)) h'
    generalize ((i + 1:Nat):Int) = J at hwJ bJ inJ atJ hq hr
    by_cases h58:s[i] = 58
    ·have h35:s[i] ≠ 35:=by rw [h58]; decide
     have hlast:((i:Int) == IntKind.wrap .i64 ((s.length:Int) - 1)) = decide (s.length ≤ i + 1):=by
      rw [wrap_p s.length (by omega) (by omega),Bool.eq_iff_iff,beq_iff_eq,decide_eq_true_eq]; omega
     by_cases h':i + 1 < s.length
     ·have hl:decide (s.length ≤ i + 1) = false:=decide_eq_false (by omega)
      have hb:blankN s (i + 1) = (s[i + 1] == 32):=by simp [blankN,h']
      cases hx:s[i + 1] == 32 with
      | true =>
       obtain rfl:X = .inr false:=by rw [← hX,hb,hx,h58]; simp [plr]
       exact ⟨by simp [h58,hwJ,bJ,hb,hx],by simp [h58,hlast,hl,hwJ,inJ h',atJ h',b32,byte_eq,hx]⟩
      | false =>
       obtain rfl:X = plr r:=by rw [← hX,hb,hx,h58]; simp
       exact ⟨by simp [h58,hwJ,bJ,hb,hx,hq],by simp [h58,hlast,hl,hwJ,inJ h',atJ h',b32,byte_eq,hx,hr]⟩
     ·have hl:decide (s.length ≤ i + 1) = true:=decide_eq_true (by omega)
      have hb:blankN s (i + 1) = true:=by simp [blankN,h']
      obtain rfl:X = .inr false:=by rw [← hX,hb,h58]; simp [plr]
      exact ⟨by simp [h58,hwJ,bJ,hb],by simp [h58,hlast,hl]⟩
    ·have n58:(s[i] == 58) = false:=by simpa using h58
     by_cases h35:s[i] = 35
     ·have hi0:0 < i:=by
       rcases Nat.eq_zero_or_pos i with rfl | h9
       ·exact absurd h35 (h0 h)
       ·exact h9
      have hp:i - 1 < s.length:=by omega
      have hwK:=wrap_p i (by omega) hi0
      have bK:=bl n (i - 1) s
      have inK:=in_i hp
      have atK:=at_i (d:=(0:UInt8)) hp
      have hgt:decide ((i:Int) > 0) = true:=decide_eq_true (by omega)
      have hb:blankN s (i - 1) = (s[i - 1] == 32):=by simp [blankN,hp]
      generalize ((i - 1:Nat):Int) = K at hwK bK inK atK
      cases hx:s[i - 1] == 32 with
      | true =>
       obtain rfl:X = .inr false:=by rw [← hX,hb,hx,n58,h35]; simp [plr]
       exact ⟨by simp [h58,h35,hwK,bK,hb,hx],by simp only [h58,h35,hgt,hwK,inK,atK,b32,byte_eq,hx]; simp⟩
      | false =>
       obtain rfl:X = plr r:=by rw [← hX,hb,hx,n58,h35]; simp
       exact ⟨by simp [h58,h35,hwK,bK,hb,hx,hwJ,hq],by simp only [h58,h35,hgt,hwK,inK,atK,b32,byte_eq,hx,hwJ,hr]; simp⟩
     ·have n35:(s[i] == 35) = false:=by simpa using h35
      obtain rfl:X = plr r:=by rw [← hX,n58,n35]; simp
      exact ⟨by simp [h58,h35,hwJ,hq],by simp [h58,h35,hwJ,hr]⟩
  ·rw [okFrom_end (Nat.not_lt.1 h)]
   exact ⟨by rw [if_neg (by rw [nlt_i (Nat.not_lt.1 h)]; exact Bool.false_ne_true)]; rfl,by rw [if_neg (by rw [nlt_i (Nat.not_lt.1 h)]; exact Bool.false_ne_true)]; rfl⟩
def plainB (s:List UInt8):Bool :=
 if h:0 < s.length then
  !(s == [126]) && !(s == [110,117,108,108]) && !(s[0] == 32) && !(s[s.length - 1] == 32) && !(sp18.contains s[0]) && !(s[0] == 45 && blankN s 1) && okFrom s 0
 else false
def rowB (s:List UInt8):Bool:=!(s.any sp5.contains) && plainB s
theorem plain_eq (n:Nat) (s:List UInt8) (hs:s.length ≤ 100000) (hn:200000 ≤ n):quote_Plain n s = some (plainB s) ∧ ref06_Plain n s = some (plainB s):=by
 have hone:=fun c=>one_eq n c sp18 (by decide) hn
 unfold quote_Plain ref06_Plain
 by_cases hw:s = [] ∨ s = [126] ∨ s = [110,117,108,108]
 ·rcases hw with rfl | rfl | rfl <;> exact ⟨by simp [lett,plainB],by simp [lett,plainB]⟩
 ·have hne:s ≠ []:=fun e=>hw (.inl e)
  have hlen:0 < s.length:=List.length_pos_iff.2 hne
  have e1:(s == []) = false:=by simpa using hne
  have e2:(s == [126]) = false:=by simp; exact fun e=>hw (.inr (.inl e))
  have e3:(s == [110,117,108,108]) = false:=by simp; exact fun e=>hw (.inr (.inr e))
  have e4:((List.length s:Int) == 0) = false:=by simp; exact hne
  have hp:s.length - 1 < s.length:=by omega
  have z0:decide (0 ≤ (0:Int) ∧ (0:Int) < (List.length s:Int)) = true:=in_i hlen
  have z1:(s[Int.toNat 0]?.getD 0) = s[0]:=at_i hlen
  have hwK:=wrap_p s.length (by omega) hlen
  have inK:=in_i hp
  have atK:=at_i (d:=(0:UInt8)) hp
  have hX:∃ X,plainB s = X:=⟨_,rfl⟩
  obtain ⟨X,hX⟩:=hX
  rw [hX]
  unfold plainB at hX
  rw [dif_pos hlen,e2,e3] at hX
  generalize ((s.length - 1:Nat):Int) = K at hwK inK atK
  simp only [e1,e2,e3,e4,z0,z1,hwK,inK,atK,b32,b45,lett,ix18,Bool.or_true,if_true,cond_false]
  by_cases h32:s[0] = 32
  ·obtain rfl:X = false:=by rw [← hX,h32]; simp
   exact ⟨by simp [h32],by simp [h32]⟩
  ·have n32:(s[0] == 32) = false:=by simpa using h32
   by_cases hl32:s[s.length - 1] = 32
   ·obtain rfl:X = false:=by rw [← hX,hl32]; simp
    exact ⟨by simp [h32,hl32],by simp [h32,hl32]⟩
   ·have m32:(s[s.length - 1] == 32) = false:=by simpa using hl32
    have hone0:ref06_one n (s[0].toNat:Int) [63,58,44,91,93,123,125,35,38,42,33,124,62,39,34,37,64,96] = some (sp18.contains s[0]):=hone s[0]
    rw [hone0]
    cases hsp:sp18.contains s[0] with
    | true =>
     obtain rfl:X = false:=by rw [← hX,hsp]; simp
     exact ⟨by simp [h32,hl32],by simp [h32,hl32]⟩
    | false =>
     have h35:∀ h:0 < s.length,s[0] ≠ 35:=by
      intro _ e
      rw [e] at hsp
      exact absurd hsp (by decide)
     obtain ⟨hq,hr⟩:=pl_l n s hs h35 n 0 (by omega) (by omega)
     have hq:quote_Plain_l1 n s s (s.length:Int) n 0 = some (plr (okFrom s 0)):=hq
     have hr:ref06_Plain_l1 n s (s.length:Int) n 0 = some (plr (okFrom s 0)):=hr
     have hb:(Sum.elim (fun _=>some true) (fun o4=>some o4):Sum Unit Bool → Option Bool) (plr (okFrom s 0)) = some (okFrom s 0):=by cases okFrom s 0 <;> rfl
     generalize plr (okFrom s 0) = r at hq hr hb
     rw [n32,m32,hsp] at hX
     have b1:=bl n 1 s
     have b1:quote_Plain_1__e n 1 s = some (blankN s 1):=b1
     by_cases h45:s[0] = 45
     ·by_cases h1:1 < s.length
      ·have en:((List.length s:Int) == 1) = false:=by rw [beq_eq_false_iff_ne]; omega
       have y0:decide (0 ≤ (1:Int) ∧ (1:Int) < (List.length s:Int)) = true:=in_i h1
       have y1:(s[Int.toNat 1]?.getD 0) = s[1]:=at_i h1
       have hbl:blankN s 1 = (s[1] == 32):=by simp [blankN,h1]
       cases hx:s[1] == 32 with
       | true =>
        obtain rfl:X = false:=by rw [← hX,hbl,hx,h45]; simp
        exact ⟨by simp [h45,hl32,b1,hbl,hx],by simp only [h45,hl32,en,y0,y1,byte_eq,hx,b32]; simp⟩
       | false =>
        obtain rfl:X = okFrom s 0:=by rw [← hX,hbl,hx]; simp
        exact ⟨by simp only [h45,hl32,b1,hbl,hx,hq,byte_eq]; simpa using hb,by simp only [h45,hl32,en,y0,y1,byte_eq,hx,hr,b32]; simpa using hb⟩
      ·have en:((List.length s:Int) == 1) = true:=by rw [beq_iff_eq]; omega
       have hbl:blankN s 1 = true:=by simp [blankN,h1]
       obtain rfl:X = false:=by rw [← hX,hbl,h45]; simp
       exact ⟨by simp [h45,hl32,b1,hbl],by simp only [h45,hl32,en]; simp⟩
     ·have n45:(s[0] == 45) = false:=by simpa using h45
      obtain rfl:X = okFrom s 0:=by rw [← hX,n45]; simp
      exact ⟨by simp only [h32,hl32,h45,hq]; simpa using hb,by simp only [h32,hl32,h45,hr]; simpa using hb⟩
theorem row_eq (n:Nat) (s:List UInt8) (hs:s.length ≤ 100000) (hn:200000 ≤ n):quote_Row n s = some (rowB s) ∧ ref06_Row n s = some (rowB s):=by
 obtain ⟨h1,h2⟩:=plain_eq n s hs hn
 unfold quote_Row ref06_Row rowB
 rw [show ((0:Int)) = ((0:Nat):Int) from rfl,rq_l n s hs n 0 (by omega) (by omega),rr_l n s hs hn n 0 (by omega) (by omega),List.drop_zero,h1,h2]
 cases s.any sp5.contains <;> exact ⟨rfl,rfl⟩
theorem strSort_sorted (l:List BS):(strSort l).Pairwise (· ≤ ·):=by
 have:=List.pairwise_mergeSort (le:=fun x y:BS=>decide (x ≤ y)) (fun a b c h1 h2=>by simp only [decide_eq_true_eq] at *; exact bs_le_trans h1 h2) (fun a b=>by simpa using bs_total a b) l
 exact this.imp fun h=>by simpa using h
theorem compact_up (zs:List BS) (hz:zs.Pairwise (· ≤ ·)):∀ m,m ≤ zs.length → Asc (Lib.compactUpTo zs.toArray m) ∧ ∀ x,x ∈ Lib.compactUpTo zs.toArray m ↔ x ∈ zs.take m
 | 0,_=>by simp [Lib.compactUpTo]
 | m + 1,hm=>by
  obtain ⟨h1,h2⟩:=compact_up zs hz m (by omega)
  have hg:∀ j (h:j < zs.length),zs.toArray[j]! = zs[j]:=fun j h=>by simp [h]
  have hle:∀ j (h:j < zs.length),j < m → zs[j] ≤ zs[m]:=fun j h hj=>List.pairwise_iff_getElem.1 hz j m h (by omega) hj
  rw [Lib.compactUpTo_succ,List.take_succ_eq_append_getElem (by omega:m < zs.length)]
  by_cases hk:Lib.keeps zs.toArray m = true
  ·rw [if_pos hk,hg m (by omega)]
   refine ⟨List.pairwise_append.2 ⟨h1,by simp,fun x hx y hy=>?_⟩,fun x=>by rw [List.mem_append,List.mem_append,h2]⟩
   rw [List.mem_singleton.1 hy]
   obtain ⟨j,hj,rfl⟩:=List.mem_take_iff_getElem.1 ((h2 x).1 hx)
   have hjm:j < m:=by omega
   refine bs_lt_of_le_of_ne (hle j (by omega) hjm) fun e=>?_
   have hk':m = 0 ∨ zs.toArray[m]! ≠ zs.toArray[m - 1]!:=by simpa [Lib.keeps] using hk
   rcases hk' with h0 | h0
   ·omega
   ·rw [hg m (by omega),hg (m - 1) (by omega)] at h0
    have a1:zs[j] ≤ zs[m - 1]:=by
     by_cases hq:j = m - 1
     ·subst hq; exact bs_not_lt.1 (bs_irrefl _)
     ·exact List.pairwise_iff_getElem.1 hz j (m - 1) (by omega) (by omega) (by omega)
    have a2:zs[m - 1] ≤ zs[m]:=hle (m - 1) (by omega) (by omega)
    exact h0 (bs_antisymm (e ▸ a1) a2)
  ·rw [if_neg hk,List.append_nil]
   refine ⟨h1,fun x=>?_⟩
   have hk':¬ (m = 0 ∨ zs.toArray[m]! ≠ zs.toArray[m - 1]!):=by simpa [Lib.keeps] using hk
   have hm0:m ≠ 0:=fun e=>hk' (.inl e)
   have he:zs[m] = zs[m - 1]:=by
    have:zs.toArray[m]! = zs.toArray[m - 1]!:=Classical.byContradiction fun h=>hk' (.inr h)
    rwa [hg m (by omega),hg (m - 1) (by omega)] at this
   rw [h2,List.mem_append,List.mem_singleton]
   constructor
   ·exact fun h=>.inl h
   ·rintro (h | h)
    ·exact h
    ·rw [h,he]
     exact List.mem_take_iff_getElem.2 ⟨m - 1,by omega,rfl⟩
theorem compact_srt (l:List BS):Lib.compact (strSort l) = srt l:=by
 obtain ⟨h1,h2⟩:=compact_up (strSort l) (strSort_sorted l) _ (Nat.le_refl _)
 refine Asc.ext h1 (asc_srt l) fun x=>?_
 rw [mem_srt]
 have:=h2 x
 rw [List.take_length] at this
 rw [show Lib.compact (strSort l) = Lib.compactUpTo (strSort l).toArray (strSort l).length from rfl,this]
 exact List.mem_mergeSort
theorem lim17 {a:Nat} (h:a ≤ 1000000):decide (a * 17 ≤ limit) = true:=decide_eq_true (by show a * 17 ≤ 140737488355328; omega)
theorem name_Sorted_eq (n:Nat) (l:List BS) (h:l.length ≤ 1000000):name_Sorted n l = some (srt l):=by
 unfold name_Sorted
 have h1:decide ((List.length ([]:List BS) + List.length l) * (16 + 1) ≤ limit) = true:=cap_add (by simp; omega)
 have h3:(Sh.sort l).length = l.length:=List.length_mergeSort l
 rw [if_pos h1,List.nil_append,if_pos (lim17 h),if_pos (lim17 (by omega))]
 exact congrArg some (compact_srt l)
def aboveB (out:List BS) (x:BS):Bool:=if out.length = 0 then true else decide ((out[out.length - 1]?.getD []) < x)
def Best (l out:List BS) (i:Nat) (v:Int):Prop :=
 (v = -1 ∧ ∀ j (h:j < l.length),j < i → aboveB out l[j] = false) ∨ ∃ (b:Nat) (h:b < l.length),v = (b:Int) ∧ b < i ∧ aboveB out l[b] = true ∧ ∀ j (h:j < l.length),j < i → aboveB out l[j] = true → l[b] ≤ l[j]
theorem last_at {out:List BS} (h0:out.length ≠ 0) (ho:out.length < 1000000):(decide (0 ≤ (IntKind.wrap .i64 ((List.length out:Int) - 1)) ∧ (IntKind.wrap .i64 ((List.length out:Int) - 1)) < (List.length out:Int))) = true ∧ (out[Int.toNat (IntKind.wrap .i64 ((List.length out:Int) - 1))]?.getD []) = (out[out.length - 1]?.getD []):=by
 rw [wrap_p out.length (by omega) (by omega)]
 exact ⟨in_i (by omega),rfl⟩
theorem j3_eq (n:Nat) (l out:List BS) (i:Nat) (v:Int) (hi:i < l.length) (ho:out.length < 1000000) (hv:v = -1 ∨ ∃ b:Nat,v = (b:Int) ∧ b < l.length) :
  ref02_Sorted_j3 n l out v (i:Int) = some (if (aboveB out l[i] && (decide (v < 0) || decide (l[i] < (l[Int.toNat v]?.getD [])))) = true then (i:Int) else v):=by
 have hA:(bif ((List.length out:Int) == 0) then true else (!(Op.bytesLess (l[Int.toNat (i:Int)]?.getD []) (out[Int.toNat (IntKind.wrap .i64 ((List.length out:Int) - 1))]?.getD []) || (l[Int.toNat (i:Int)]?.getD []) == (out[Int.toNat (IntKind.wrap .i64 ((List.length out:Int) - 1))]?.getD [])))) = aboveB out l[i]:=by
  unfold aboveB
  rw [leq_dec,at_i hi]
  by_cases h0:out.length = 0
  ·simp [h0]
  ·have e:((List.length out:Int) == 0) = false:=by rw [beq_eq_false_iff_ne]; omega
   rw [e,if_neg h0,(last_at h0 ho).2,cond_false,Bool.eq_iff_iff]
   simp [bs_not_le]
 unfold ref02_Sorted_j3
 rw [hA]
 have c2:(!(((List.length out:Int) == 0) == false) || decide (0 ≤ (IntKind.wrap .i64 ((List.length out:Int) - 1)) ∧ (IntKind.wrap .i64 ((List.length out:Int) - 1)) < (List.length out:Int))) = true:=by
  by_cases h0:out.length = 0
  ·simp [h0]
  ·rw [(last_at h0 ho).1,Bool.or_true]
 have c4:(!(((decide (v < 0)) == false) && (aboveB out l[i] == true)) || decide (0 ≤ v ∧ v < (List.length l:Int))) = true:=by
  rcases hv with rfl | ⟨b,rfl,hb⟩
  ·simp
  ·rw [in_i hb,Bool.or_true]
 simp only [in_i hi,Bool.or_true,if_true,c2,c4,lett,less_dec,at_i hi]
 cases aboveB out l[i] <;> cases decide (v < 0) <;> simp
 split <;> rfl
theorem best_step {l out:List BS} {i:Nat} {v:Int} (hi:i < l.length) (h:Best l out i v):Best l out (i + 1) (if (aboveB out l[i] && (decide (v < 0) || decide (l[i] < (l[Int.toNat v]?.getD [])))) = true then (i:Int) else v):=by
 cases ha:aboveB out l[i] with
 | false =>
  rw [Bool.false_and,if_neg Bool.false_ne_true]
  rcases h with ⟨rfl,h⟩ | ⟨b,hb,rfl,hbi,hab,h⟩
  ·refine .inl ⟨rfl,fun j hj hji=>?_⟩
   by_cases e:j = i
   ·subst e; exact ha
   ·exact h j hj (by omega)
  ·refine .inr ⟨b,hb,rfl,by omega,hab,fun j hj hji haj=>?_⟩
   by_cases e:j = i
   ·subst e; rw [ha] at haj; cases haj
   ·exact h j hj (by omega) haj
 | true =>
  rw [Bool.true_and]
  rcases h with ⟨rfl,h⟩ | ⟨b,hb,rfl,hbi,hab,h⟩
  ·rw [if_pos (by simp)]
   refine .inr ⟨i,hi,rfl,by omega,ha,fun j hj hji haj=>?_⟩
   by_cases e:j = i
   ·subst e; exact bs_not_lt.1 (bs_irrefl _)
   ·rw [h j hj (by omega)] at haj; cases haj
  ·have e0:decide ((b:Int) < 0) = false:=decide_eq_false (by omega)
   rw [e0,Bool.false_or,at_i hb]
   by_cases hlt:l[i] < l[b]
   ·rw [if_pos (decide_eq_true hlt)]
    refine .inr ⟨i,hi,rfl,by omega,ha,fun j hj hji haj=>?_⟩
    by_cases e:j = i
    ·subst e; exact bs_not_lt.1 (bs_irrefl _)
    ·exact bs_le_trans (bs_le_of_lt hlt) (h j hj (by omega) haj)
   ·rw [if_neg (by simpa using hlt)]
    refine .inr ⟨b,hb,rfl,by omega,hab,fun j hj hji haj=>?_⟩
    by_cases e:j = i
    ·subst e; exact bs_not_lt.1 hlt
    ·exact h j hj (by omega) haj
theorem l2_eq (n:Nat) (l out:List BS) (hl:l.length < 1000000) (ho:out.length < 1000000):∀ (k i:Nat) (v:Int),i ≤ l.length → l.length - i < k → Best l out i v → ∃ r,ref02_Sorted_l2 n l out k v (i:Int) = some r ∧ Best l out l.length r
 | 0,i,v,_,h,_=>by omega
 | k + 1,i,v,h1,h2,hb=>by
  rw [ref02_Sorted_l2]
  by_cases h:i < l.length
  ·have hv:v = -1 ∨ ∃ b:Nat,v = (b:Int) ∧ b < l.length:=by
    rcases hb with ⟨e,_⟩ | ⟨b,hb,e,_⟩
    ·exact .inl e
    ·exact .inr ⟨b,e,hb⟩
   rw [if_pos (lt_i h),j3_eq n l out i v h ho hv,Option.bind_some,wrap_s i (by omega)]
   exact l2_eq n l out hl ho k (i + 1) _ (by omega) (by omega) (best_step h hb)
  ·have:i = l.length:=by omega
   subst this
   rw [if_neg (by rw [nlt_n]; exact Bool.false_ne_true)]
   exact ⟨v,rfl,hb⟩
theorem l1_eq (n:Nat) (l:List BS) (hl:l.length < 100000) (hn:100000 ≤ n):∀ (k m:Nat),m ≤ (srt l).length → (srt l).length - m < k → ref02_Sorted_l1 n l k ((srt l).take m) = some (srt l)
 | 0,m,_,h=>by omega
 | k + 1,m,h1,h2=>by
  have hlen:=srt_length_le l
  have hA:=asc_srt l
  have htl:((srt l).take m).length = m:=by rw [List.length_take]; omega
  have hab:∀ x,aboveB ((srt l).take m) x = true ↔ (m = 0 ∨ ∃ h:m - 1 < (srt l).length,(srt l)[m - 1] < x):=by
   intro x
   unfold aboveB
   rw [htl]
   by_cases h0:m = 0
   ·simp [h0]
   ·rw [if_neg h0,List.getElem?_take,if_pos (by omega),List.getElem?_eq_getElem (by omega)]
    simp [h0]
    constructor
    ·exact fun h=>⟨by omega,h⟩
    ·exact fun ⟨_,h⟩=>h
  obtain ⟨r,hr,hb⟩:=l2_eq n l ((srt l).take m) (by omega) (by omega) n 0 (-1) (by omega) (by omega) (.inl ⟨rfl,fun j _ h=>by omega⟩)
  have hr:ref02_Sorted_l2 n l ((srt l).take m) n (-1) 0 = some r:=hr
  rw [ref02_Sorted_l1,hr,Option.bind_some]
  rcases hb with ⟨rfl,hb⟩ | ⟨b,hbl,rfl,_,hcb,hb⟩
  ·have hm:m = (srt l).length:=by
    refine Classical.byContradiction fun hne=>?_
    have hmT:m < (srt l).length:=by omega
    obtain ⟨j,hj,e⟩:=List.mem_iff_getElem.1 (mem_srt.1 (List.getElem_mem hmT))
    have:=hb j hj hj
    rw [e] at this
    have h3:aboveB ((srt l).take m) (srt l)[m] = true:=by
     rw [hab]
     by_cases h0:m = 0
     ·exact .inl h0
     ·exact .inr ⟨by omega,List.pairwise_iff_getElem.1 hA (m - 1) m (by omega) hmT (by omega)⟩
    rw [this] at h3; cases h3
   rw [if_pos (by decide)]
   subst hm
   rw [List.take_length]
  ·obtain ⟨j,hj,e⟩:=List.mem_iff_getElem.1 (mem_srt.2 (List.getElem_mem hbl):l[b] ∈ srt l)
   have hmj:m ≤ j:=by
    rcases (hab _).1 hcb with h0 | ⟨h0,h3⟩
    ·omega
    ·refine Classical.byContradiction fun hne=>?_
     rw [← e] at h3
     by_cases hq:j = m - 1
     ·subst hq; exact bs_irrefl _ h3
     ·exact bs_irrefl _ (bs_trans h3 (List.pairwise_iff_getElem.1 hA j (m - 1) hj h0 (by omega)))
   have hmT:m < (srt l).length:=by omega
   have hbm:l[b] = (srt l)[m]:=by
    obtain ⟨j',hj',e'⟩:=List.mem_iff_getElem.1 (mem_srt.1 (List.getElem_mem hmT))
    have h3:aboveB ((srt l).take m) (srt l)[m] = true:=by
     rw [hab]
     by_cases h0:m = 0
     ·exact .inl h0
     ·exact .inr ⟨by omega,List.pairwise_iff_getElem.1 hA (m - 1) m (by omega) hmT (by omega)⟩
    have h4:=hb j' hj' hj' (by rw [e']; exact h3)
    rw [e'] at h4
    refine bs_antisymm h4 ?_
    rw [← e]
    by_cases hq:j = m
    ·subst hq; exact bs_not_lt.1 (bs_irrefl _)
    ·exact bs_le_of_lt (List.pairwise_iff_getElem.1 hA m j hmT hj (by omega))
   have e0:decide ((b:Int) < 0) = false:=decide_eq_false (by omega)
   have hc:decide ((List.length ((srt l).take m) + List.length ([l[b]]:List BS)) * (16 + 1) ≤ limit) = true:=cap_add (by rw [htl]; simp; omega)
   rw [e0,if_neg Bool.false_ne_true,if_pos (in_i hbl),at_i hbl,if_pos hc,hbm,← List.take_succ_eq_append_getElem hmT]
   exact l1_eq n l hl hn k (m + 1) (by omega) (by omega)
theorem ref02_Sorted_eq (n:Nat) (l:List BS) (hl:l.length < 10000) (hn:100000 ≤ n):ref02_Sorted n l = some (srt l):=by
 unfold ref02_Sorted
 have:=l1_eq n l (by omega) hn n 0 (by omega) (by have:=srt_length_le l; omega)
 rw [List.take_zero] at this
 rw [this]; rfl
theorem eq_drop {l m:List BS} {i:Nat} (h1:i < l.length) (h2:i < m.length):(l.drop i = m.drop i) ↔ l[i] = m[i] ∧ l.drop (i + 1) = m.drop (i + 1):=by
 rw [drop_at h1,drop_at h2,List.cons.injEq]
theorem same_l {L:Nat → Int → Option (Sum Unit Bool)} (l m:List BS) (hlm:l.length = m.length) (hl:l.length < 10000)
  (hs:∀ k i (h:i < l.length) (h':i < m.length),L (k + 1) (i:Int) = if (!(l[i] == m[i])) = true then some (.inr false) else L k (IntKind.wrap .i64 ((i:Int) + 1)))
  (he:∀ k,L (k + 1) (l.length:Int) = some (.inl ())):∀ k i,i ≤ l.length → l.length - i < k → L k (i:Int) = some (if l.drop i = m.drop i then .inl () else .inr false)
 | 0,i,_,h=>by omega
 | k + 1,i,h1,h2=>by
  by_cases h:i < l.length
  ·have h':i < m.length:=by omega
   rw [hs k i h h']
   simp only [eq_drop h h']
   by_cases e:l[i] = m[i]
   ·simp only [e,beq_self_eq_true,Bool.not_true,Bool.false_eq_true,if_false,true_and]
    rw [wrap_s i (by omega)]
    exact same_l l m hlm hl hs he k (i + 1) (by omega) (by omega)
   ·simp [e]
  ·have:i = l.length:=by omega
   subst this
   rw [he,List.drop_eq_nil_of_le (Nat.le_refl _),List.drop_eq_nil_of_le (by omega),if_pos rfl]
theorem ref02_Same_eq (n:Nat) (l m:List BS) (hl:l.length < 10000) (hn:100000 ≤ n):ref02_Same n l m = some (decide (l = m)):=by
 unfold ref02_Same
 by_cases hlm:l.length = m.length
 ·have e:((List.length l:Int) != (List.length m:Int)) = false:=by simp [hlm]
  have:=same_l (L:=ref02_Same_l1 n l m) l m hlm hl
   (fun k i h h'=>by rw [ref02_Same_l1,if_pos (lt_i h),if_pos (in_i h),if_pos (in_i h'),at_i h,at_i h'])
   (fun k=>by rw [ref02_Same_l1,nlt_n]; rfl) n 0 (by omega) (by omega)
  rw [e,if_neg Bool.false_ne_true,show (0:Int) = ((0:Nat):Int) from rfl,this,List.drop_zero,List.drop_zero]
  by_cases h:l = m
  ·rw [if_pos h,decide_eq_true h]; rfl
  ·rw [if_neg h,decide_eq_false h]; rfl
 ·have e:((List.length l:Int) != (List.length m:Int)) = true:=by simpa using fun h=>hlm (by omega)
  rw [e,if_pos rfl,decide_eq_false (fun h=>hlm (congrArg List.length h))]
abbrev Nd:=S_api_Node
abbrev Z8:Nd:=S_api_Node.mk 0 [] [] []
def Fit:Nat → Nd → Prop
 | 0,_=>False
 | d + 1,t=>t.f_Kids.length ≤ 2000 ∧ t.f_Keys.length ≤ 2000 ∧ (t.f_Kind ≠ 1 → t.f_Text = []) ∧ (t.f_Kind ≠ 3 → t.f_Keys = []) ∧ (t.f_Kind = 3 → t.f_Keys.length = t.f_Kids.length ∧ t.f_Keys.Nodup) ∧ (t.f_Kind < 2 → t.f_Kids = []) ∧ (0 ≤ t.f_Kind ∧ t.f_Kind ≤ 3) ∧ ∀ x ∈ t.f_Kids,Fit d x
def sz8:Nat → Nd → Nat
 | 0,_=>1
 | d + 1,t=>1 + (t.f_Kids.map (sz8 d)).sum
theorem sz8_pos:∀ d t,1 ≤ sz8 d t
 | 0,_=>Nat.le_refl 1
 | d + 1,t=>by unfold sz8; omega
def Shk (b:Nat):Nat → Nd → Prop
 | 0,_=>True
 | d + 1,t=>t.f_Text.length ≤ b ∧ (∀ k ∈ t.f_Keys,k.length ≤ b) ∧ ∀ x ∈ t.f_Kids,Shk b d x
theorem Shk.mono {b c:Nat} (hbc:b ≤ c):∀ {d:Nat} {t:Nd},Shk b d t → Shk c d t
 | 0,_,_=>trivial
 | d + 1,t,⟨h1,h2,h3⟩=>⟨Nat.le_trans h1 hbc,fun k hk=>Nat.le_trans (h2 k hk) hbc,fun x hx=>(h3 x hx).mono hbc⟩
theorem ins_has {x:BS}:∀ {l:List BS},Asc l → x ∈ l → (ins x l).length = l.length
 | [],_,h=>by cases h
 | y :: l,ha,h=>by
  obtain ⟨h1,h2⟩:=List.pairwise_cons.1 ha
  unfold ins
  split
  ·rename_i hx
   rcases List.mem_cons.1 h with e | hm
   ·subst e; exact (bs_irrefl _ hx).elim
   ·exact (bs_irrefl _ (bs_trans hx (h1 x hm))).elim
  ·split
   ·rfl
   ·rename_i hx hy
    rcases List.mem_cons.1 h with e | hm
    ·exact (hy e).elim
    ·rw [List.length_cons,ins_has h2 hm,List.length_cons]
theorem srt_nodup:∀ {l:List BS},(srt l).length = l.length → l.Nodup
 | [],_=>.nil
 | x :: l,h=>by
  have h0:srt (x :: l) = ins x (srt l):=rfl
  have h1:=srt_length_le l
  rw [h0,List.length_cons] at h
  by_cases hx:x ∈ srt l
  ·rw [ins_has (asc_srt l) hx] at h; omega
  ·have h2:=length_ins_le x (srt l)
   refine List.nodup_cons.2 ⟨fun hm=>hx (mem_srt.2 hm),srt_nodup (by omega)⟩
theorem left_loop (R:Nd → Int → Int → Option Int) (n d:Nat) (dep:Int) (t:Nd) (hdep:0 ≤ dep ∧ dep < 100)
  (hR:∀ x ∈ t.f_Kids,∀ l:Nat,l ≤ 2000 → ∃ r,R x (dep + 1) (l:Int) = some r ∧ (r = -1 ∨ ∃ q:Nat,r = (q:Int) ∧ Fit d x ∧ q + sz8 d x ≤ l)) :
  ∀ (k l i:Nat),l + 1 < k → i ≤ t.f_Kids.length → i + l ≤ 2000 →
   ref08_Left_l1 R n dep t k (l:Int) (i:Int) = some (.inr (-1)) ∨ ∃ q:Nat,ref08_Left_l1 R n dep t k (l:Int) (i:Int) = some (.inl (q:Int)) ∧ q + ((t.f_Kids.drop i).map (sz8 d)).sum ≤ l ∧ ∀ x ∈ t.f_Kids.drop i,Fit d x
 | 0,l,i,h,_,_=>by omega
 | k + 1,l,i,hk,hi,hil=>by
  by_cases h:i < t.f_Kids.length
  ·have e1:IntKind.wrap .i64 (dep + 1) = dep + 1:=wrap_id _ (by omega) (by omega)
   obtain ⟨r,h1,h2⟩:=hR t.f_Kids[i] (List.getElem_mem h) l (by omega)
   have hst:ref08_Left_l1 R n dep t (k + 1) (l:Int) (i:Int) = if (decide (r < 0)) = true then some (.inr (-1)) else ref08_Left_l1 R n dep t k r (IntKind.wrap .i64 ((i:Int) + 1)):=by
    rw [ref08_Left_l1,if_pos (lt_i h),if_pos (in_i h),at_i h,e1,h1]; rfl
   rw [hst]
   rcases h2 with rfl | ⟨q,rfl,hF,hq⟩
   ·exact .inl (if_pos rfl)
   ·have hp:=sz8_pos d t.f_Kids[i]
    rw [if_neg (by simp),wrap_s i (by omega)]
    rcases left_loop R n d dep t hdep hR k q (i + 1) (by omega) (by omega) (by omega) with h3 | ⟨q',h3,h4,h5⟩
    ·exact .inl h3
    ·refine .inr ⟨q',h3,?_,?_⟩
     ·rw [drop_at h,List.map_cons,List.sum_cons]; omega
     ·rw [drop_at h]
      intro x hx
      rcases List.mem_cons.1 hx with rfl | hx
      ·exact hF
      ·exact h5 x hx
  ·have:i = t.f_Kids.length:=by omega
   subst this
   refine .inr ⟨l,?_,?_,?_⟩
   ·rw [ref08_Left_l1,nlt_n]; rfl
   ·rw [List.drop_eq_nil_of_le (Nat.le_refl _)]; simp
   ·rw [List.drop_eq_nil_of_le (Nat.le_refl _)]; intro x hx; cases hx
theorem bif_or {a b:Bool}:(bif a then true else b) = (a || b):=by cases a <;> rfl
theorem bif_and {a b:Bool}:(bif a then b else false) = (a && b):=by cases a <;> rfl
theorem left_eq:∀ (d n:Nat) (t:Nd) (dep:Int) (l:Nat),dep + (d:Int) = 13 → 0 ≤ dep → l ≤ 2000 → 100000 + d < n →
  ∃ r,ref08_Left n t dep (l:Int) = some r ∧ (r = -1 ∨ ∃ q:Nat,r = (q:Int) ∧ Fit d t ∧ q + sz8 d t ≤ l)
 | _,0,_,_,_,_,_,_,h=>by omega
 | 0,n + 1,t,dep,l,hd,h0,hl,hn=>by
  refine ⟨-1,?_,.inl rfl⟩
  show ref08_Left_b (ref08_Left n) n t dep (l:Int) = _
  unfold ref08_Left_b
  have:decide (dep > 12) = true:=decide_eq_true (by omega)
  simp only [this,lett,bif_or,Bool.or_true,Bool.true_or,if_true]
 | d + 1,n + 1,t,dep,l,hd,h0,hl,hn=>by
  show ∃ r,ref08_Left_b (ref08_Left n) n t dep (l:Int) = some r ∧ _
  unfold ref08_Left_b
  have e1:IntKind.wrap .i64 ((l:Int) - 1) = (l:Int) - 1:=wrap_id _ (by omega) (by omega)
  simp only [lett,e1,bif_or,bif_and]
  by_cases c1:(decide ((l:Int) - 1 < 0) || decide (dep > 12) || decide (t.f_Kind < 0) || decide (t.f_Kind > 3)) = true
  ·exact ⟨-1,if_pos c1,.inl rfl⟩
  rw [if_neg c1]
  by_cases c2:((t.f_Kind != 1 && decide ((List.length t.f_Text:Int) > 0)) || (t.f_Kind != 3 && decide ((List.length t.f_Keys:Int) > 0)) || (decide (t.f_Kind < 2) && decide ((List.length t.f_Kids:Int) > 0))) = true
  ·exact ⟨-1,if_pos c2,.inl rfl⟩
  rw [if_neg c2]
  simp only [Bool.or_eq_true,Bool.and_eq_true,decide_eq_true_eq,bne_iff_ne,ne_eq,not_or,not_and,gt_iff_lt,Int.not_lt] at c1 c2
  obtain ⟨⟨⟨a1,a2⟩,a3⟩,a4⟩:=c1
  obtain ⟨⟨b1,b2⟩,b3⟩:=c2
  obtain ⟨l,rfl⟩:∃ l',l = l' + 1:=⟨l - 1,by omega⟩
  have e2:((l + 1:Nat):Int) - 1 = (l:Int):=by omega
  rw [e2]
  have loop:=left_loop (ref08_Left n) n d dep t (by omega) (fun x _ l' hl'=>left_eq d n x (dep + 1) l' (by omega) (by omega) hl' (by omega)) n l 0 (by omega) (Nat.zero_le _) (by omega)
  have fin:(t.f_Kind = 3 → t.f_Keys.length = t.f_Kids.length ∧ t.f_Keys.Nodup) → ∃ r,((ref08_Left_l1 (ref08_Left n) n dep t n (l:Int) 0).bind fun o5=>(Sum.elim (fun o5=>some o5) (fun o5=>some o5)) o5) = some r ∧ (r = -1 ∨ ∃ q:Nat,r = (q:Int) ∧ Fit (d + 1) t ∧ q + sz8 (d + 1) t ≤ l + 1):=by
   intro hk
   rcases loop with h3 | ⟨q,h3,h4,h5⟩
   ·have h3:ref08_Left_l1 (ref08_Left n) n dep t n (l:Int) 0 = _:=h3
    exact ⟨-1,by rw [h3]; rfl,.inl rfl⟩
   ·have h3:ref08_Left_l1 (ref08_Left n) n dep t n (l:Int) 0 = _:=h3
    rw [List.drop_zero] at h4 h5
    have hs:∀ (f:Nd → Nat) (m:List Nd),(∀ x,1 ≤ f x) → m.length ≤ (m.map f).sum:=by
     intro f m hf
     induction m with
     | nil=>exact Nat.le_refl 0
     | cons x m ih=>rw [List.map_cons,List.sum_cons,List.length_cons]; have:=hf x; omega
    have hkl:=hs (sz8 d) t.f_Kids (sz8_pos d)
    refine ⟨q,by rw [h3]; rfl,.inr ⟨q,rfl,⟨by omega,?_,fun h=>List.eq_nil_of_length_eq_zero (by have:=b1 h; omega),fun h=>List.eq_nil_of_length_eq_zero (by have:=b2 h; omega),hk,fun h=>List.eq_nil_of_length_eq_zero (by have:=b3 h; omega),⟨by omega,by omega⟩,h5⟩,?_⟩⟩
    ·by_cases h:t.f_Kind = 3
     ·have:=hk h; omega
     ·have:=b2 h; omega
    ·show q + (1 + (t.f_Kids.map (sz8 d)).sum) ≤ l + 1; omega
  by_cases h3:t.f_Kind = 3
  ·have e3:(t.f_Kind == 3) = true:=by rw [h3]; rfl
   rw [e3]
   by_cases c3:((List.length t.f_Keys:Int) != (List.length t.f_Kids:Int) || decide ((List.length t.f_Kids:Int) > (l:Int))) = true
   ·rw [c3]
    exact ⟨-1,rfl,.inl rfl⟩
   ·have c3':((List.length t.f_Keys:Int) != (List.length t.f_Kids:Int) || decide ((List.length t.f_Kids:Int) > (l:Int))) = false:=by simpa using c3
    rw [c3']
    simp only [Bool.or_eq_true,bne_iff_ne,ne_eq,decide_eq_true_eq,not_or,Decidable.not_not] at c3
    obtain ⟨c4,c5⟩:=c3
    have hso:=ref02_Sorted_eq n t.f_Keys (by omega) (by omega)
    simp only [beq_self_eq_true,Bool.and_self,if_true,hso,Option.bind_some,Bool.false_or,Bool.true_and]
    by_cases c6:((List.length (srt t.f_Keys):Int) != (List.length t.f_Keys:Int)) = true
    ·exact ⟨-1,if_pos c6,.inl rfl⟩
    ·rw [if_neg c6]
     simp only [bne_iff_ne,ne_eq,Decidable.not_not] at c6
     exact fin fun _=>⟨by omega,srt_nodup (by omega)⟩
  ·have e3:(t.f_Kind == 3) = false:=by rw [beq_eq_false_iff_ne]; exact h3
   rw [e3]
   simp only [Bool.false_and,Bool.and_false,Bool.false_eq_true,if_false,Option.bind_some,show (false == true) = false from rfl]
   exact fin fun h=>(h3 h).elim
theorem ins_new {x:BS}:∀ {l:List BS},x ∉ l → (ins x l).length = l.length + 1
 | [],_=>rfl
 | y :: l,h=>by
  unfold ins
  split
  ·simp
  ·split
   ·rename_i e; subst e; exact (h List.mem_cons_self).elim
   ·rw [List.length_cons,ins_new fun hm=>h (List.mem_cons_of_mem _ hm),List.length_cons]
theorem srt_len:∀ {l:List BS},l.Nodup → (srt l).length = l.length
 | [],_=>rfl
 | x :: l,h=>by
  obtain ⟨h1,h2⟩:=List.nodup_cons.1 h
  show (ins x (srt l)).length = _
  rw [ins_new (fun hm=>h1 (mem_srt.1 hm)),srt_len h2,List.length_cons]
def Wide:Nat → Nd → Prop
 | 0,_=>True
 | d + 1,t=>t.f_Kids.length ≤ 1000000 ∧ t.f_Keys.length ≤ 1000000 ∧ ∀ x ∈ t.f_Kids,Wide d x
theorem Fit.wide:∀ {d:Nat} {t:Nd},Fit d t → Wide d t
 | 0,_,h=>h.elim
 | d + 1,t,⟨h1,h2,_,_,_,_,_,h8⟩=>⟨by omega,by omega,fun x hx=>(h8 x hx).wide⟩
theorem right_loop (R:Nd → Int → S_node_budget → Option (Bool × S_node_budget)) (n d:Nat) (dep:Int) (kids:List Nd) (hdep:0 ≤ dep ∧ dep < 100)
  (hR:∀ x ∈ kids,∀ l:Nat,l ≤ 2000 → ∃ b q,R x (dep + 1) (S_node_budget.mk (l:Int)) = some (b,q) ∧ (b = true ↔ Fit d x ∧ sz8 d x ≤ l) ∧ (b = true → q = S_node_budget.mk ((l - sz8 d x:Nat):Int))) :
  ∀ (k l i:Nat),l + 1 < k → i ≤ kids.length → i + l ≤ 2000 →
   (∃ q:Nat,node_budget_right__o0_l2 R n dep kids (List.length kids:Int) k (i:Int) (S_node_budget.mk (l:Int)) = some (.inl (S_node_budget.mk (q:Int))) ∧ q + ((kids.drop i).map (sz8 d)).sum = l ∧ ∀ x ∈ kids.drop i,Fit d x) ∨
   (∃ q,node_budget_right__o0_l2 R n dep kids (List.length kids:Int) k (i:Int) (S_node_budget.mk (l:Int)) = some (.inr (false,q)) ∧ ¬ ((∀ x ∈ kids.drop i,Fit d x) ∧ ((kids.drop i).map (sz8 d)).sum ≤ l))
 | 0,l,i,h,_,_=>by omega
 | k + 1,l,i,hk,hi,hil=>by
  by_cases h:i < kids.length
  ·have e1:IntKind.wrap .i64 (dep + 1) = dep + 1:=wrap_id _ (by omega) (by omega)
   obtain ⟨b,q,h1,h2,h3⟩:=hR kids[i] (List.getElem_mem h) l (by omega)
   have hst:node_budget_right__o0_l2 R n dep kids (List.length kids:Int) (k + 1) (i:Int) (S_node_budget.mk (l:Int)) = if (!b) = true then some (.inr (false,q)) else node_budget_right__o0_l2 R n dep kids (List.length kids:Int) k (IntKind.wrap .i64 ((i:Int) + 1)) q:=by
    rw [node_budget_right__o0_l2,if_pos (lt_i h),if_pos (in_i h),at_i h,e1,h1]; rfl
   rw [hst,drop_at h,List.map_cons,List.sum_cons]
   cases b with
   | false =>
    refine .inr ⟨q,rfl,fun hh=>?_⟩
    exact Bool.false_ne_true (h2.2 ⟨hh.1 _ List.mem_cons_self,by omega⟩)
   | true =>
    obtain ⟨hF,hs⟩:=h2.1 rfl
    have hq:=h3 rfl
    subst hq
    have hp:=sz8_pos d kids[i]
    rw [if_neg (by simp),wrap_s i (by omega)]
    rcases right_loop R n d dep kids hdep hR k (l - sz8 d kids[i]) (i + 1) (by omega) (by omega) (by omega) with ⟨q',h4,h5,h6⟩ | ⟨q',h4,h5⟩
    ·refine .inl ⟨q',h4,by omega,fun x hx=>?_⟩
     rcases List.mem_cons.1 hx with rfl | hx
     ·exact hF
     ·exact h6 x hx
    ·exact .inr ⟨q',h4,fun hh=>h5 ⟨fun x hx=>hh.1 x (List.mem_cons_of_mem _ hx),by omega⟩⟩
  ·have:i = kids.length:=by omega
   subst this
   refine .inl ⟨l,?_,?_,?_⟩
   ·rw [node_budget_right__o0_l2,nlt_n]; rfl
   ·rw [List.drop_eq_nil_of_le (Nat.le_refl _)]; simp
   ·rw [List.drop_eq_nil_of_le (Nat.le_refl _)]; intro x hx; cases hx
theorem sum_ge {d:Nat}:∀ m:List Nd,m.length ≤ (m.map (sz8 d)).sum
 | []=>by simp
 | x :: m=>by rw [List.map_cons,List.sum_cons,List.length_cons]; have:=sz8_pos d x; have:=sum_ge (d:=d) m; omega
theorem sum_i {a b:Nat} (ha:a ≤ 1000000) (hb:b ≤ 1000000):(IntKind.wrap .i64 ((a:Int) + (b:Int)) == 0) = decide (a = 0 ∧ b = 0):=by
 rw [wrap_id _ (by omega) (by omega),Bool.eq_iff_iff,beq_iff_eq,decide_eq_true_eq]; omega
theorem right_eq:∀ (d n:Nat) (t:Nd) (dep:Int) (l:Nat),dep + (d:Int) = 13 → 0 ≤ dep → l ≤ 2000 → Wide d t → 100000 + d < n →
  ∃ b q,node_budget_right__o0 n t dep (S_node_budget.mk (l:Int)) = some (b,q) ∧ (b = true ↔ Fit d t ∧ sz8 d t ≤ l) ∧ (b = true → q = S_node_budget.mk ((l - sz8 d t:Nat):Int))
 | _,0,_,_,_,_,_,_,_,h=>by omega
 | 0,n + 1,t,dep,l,hd,h0,hl,hW,hn=>by
  show ∃ b q,node_budget_right__o0_b (node_budget_right__o0 n) n t dep (S_node_budget.mk (l:Int)) = some (b,q) ∧ _
  unfold node_budget_right__o0_b
  have:decide (dep > 12) = true:=decide_eq_true (by omega)
  refine ⟨false,S_node_budget.mk (IntKind.wrap .i64 ((l:Int) - 1)),?_,⟨fun h=>(by cases h),fun h=>h.1.elim⟩,fun h=>(by cases h)⟩
  rw [this,show ∀ b:Bool,(bif b then true else true) = true from fun b=>by cases b <;> rfl,if_pos rfl]
 | d + 1,n + 1,t,dep,l,hd,h0,hl,hW,hn=>by
  show ∃ b q,node_budget_right__o0_b (node_budget_right__o0 n) n t dep (S_node_budget.mk (l:Int)) = some (b,q) ∧ _
  obtain ⟨w1,w2,w3⟩:=hW
  unfold node_budget_right__o0_b
  have e1:IntKind.wrap .i64 ((l:Int) - 1) = (l:Int) - 1:=wrap_id _ (by omega) (by omega)
  have hdp:decide (dep > 12) = false:=decide_eq_false (by omega)
  simp only [e1,hdp]
  cases l with
  | zero =>
   have:decide ((((0:Nat):Int) - 1) < 0) = true:=rfl
   refine ⟨false,_,by rw [this]; rfl,⟨fun h=>(by cases h),fun h=>?_⟩,fun h=>by cases h⟩
   have:=h.2
   have:=sz8_pos (d + 1) t
   omega
  | succ l =>
   have e2:((l + 1:Nat):Int) - 1 = (l:Int):=by omega
   have hlt:decide ((l:Int) < 0) = false:=decide_eq_false (by omega)
   have hs:sz8 (d + 1) t = 1 + (t.f_Kids.map (sz8 d)).sum:=rfl
   rw [e2,hlt]
   simp only [cond_false,Bool.false_eq_true,if_false]
   have hsg:=sum_ge (d:=d) t.f_Kids
   have loop:=right_loop (node_budget_right__o0 n) n d dep t.f_Kids (by omega) (fun x hx l' hl'=>right_eq d n x (dep + 1) l' (by omega) (by omega) hl' (w3 x hx) (by omega)) n l 0 (by omega) (Nat.zero_le _) (by omega)
   have loop0:∀ (hk:(t.f_Kind = 2 ∨ t.f_Kind = 3) ∧ t.f_Text = [] ∧ (t.f_Kind ≠ 3 → t.f_Keys = []) ∧ (t.f_Kind = 3 → t.f_Keys.length = t.f_Kids.length ∧ t.f_Keys.Nodup)),
     ∃ b q,(node_budget_right__o0_l2 (node_budget_right__o0 n) n dep t.f_Kids (List.length t.f_Kids:Int) n 0 (S_node_budget.mk (l:Int))).bind (fun o2=>(Sum.elim (fun o2=>some (true,o2)) (fun o2=>some (o2.1,o2.2)) o2:Option (Bool × S_node_budget))) = some (b,q) ∧ (b = true ↔ Fit (d + 1) t ∧ sz8 (d + 1) t ≤ l + 1) ∧ (b = true → q = S_node_budget.mk ((l + 1 - sz8 (d + 1) t:Nat):Int)):=by
    intro ⟨k1,k2,k3,k4⟩
    rw [List.drop_zero] at loop
    rcases loop with ⟨q,h4,h5,h6⟩ | ⟨q,h4,h5⟩
    ·have h4:node_budget_right__o0_l2 (node_budget_right__o0 n) n dep t.f_Kids (List.length t.f_Kids:Int) n 0 (S_node_budget.mk (l:Int)) = _:=h4
     rw [h4]
     refine ⟨true,_,rfl,⟨fun _=>⟨⟨by omega,?_,fun _=>k2,k3,k4,fun h=>?_,⟨by omega,by omega⟩,h6⟩,by omega⟩,fun _=>rfl⟩,fun _=>?_⟩
     ·by_cases h3:t.f_Kind = 3
      ·have:=(k4 h3).1; omega
      ·rw [k3 h3]; simp
     ·omega
     ·exact congrArg _ (by omega)
    ·have h4:node_budget_right__o0_l2 (node_budget_right__o0 n) n dep t.f_Kids (List.length t.f_Kids:Int) n 0 (S_node_budget.mk (l:Int)) = _:=h4
     rw [h4]
     refine ⟨false,_,rfl,⟨fun h=>(by cases h),fun ⟨hF,hz⟩=>(h5 ⟨hF.2.2.2.2.2.2.2,by omega⟩).elim⟩,fun h=>by cases h⟩
   have leaf:∀ (c:Bool),(c = true ↔ Fit (d + 1) t ∧ sz8 (d + 1) t ≤ l + 1) → (c = true → t.f_Kids = []) → ∃ b q,(some (c,S_node_budget.mk (l:Int)):Option (Bool × S_node_budget)) = some (b,q) ∧ (b = true ↔ Fit (d + 1) t ∧ sz8 (d + 1) t ≤ l + 1) ∧ (b = true → q = S_node_budget.mk ((l + 1 - sz8 (d + 1) t:Nat):Int)):=by
    intro c h1 h2
    refine ⟨c,_,rfl,h1,fun hc=>?_⟩
    rw [hs,h2 hc]
    congr 1
   have nil_iff:∀ {α:Type} (x:List α),x.length = 0 ↔ x = []:=fun x=>List.length_eq_zero_iff
   unfold node_budget_right__o0_j1
   by_cases k0:t.f_Kind = 0
   ·rw [if_pos (by rw [k0]; rfl),sum_i w2 w1]
    refine leaf _ ⟨fun h=>?_,fun ⟨hF,_⟩=>?_⟩ fun h=>?_
    ·cases ht:(t.f_Text == []) with
     | false=>rw [ht] at h; cases h
     | true =>
      rw [ht] at h
      have h:=of_decide_eq_true h
      rw [nil_iff,nil_iff] at h
      refine ⟨⟨by rw [h.2]; simp,by rw [h.1]; simp,fun _=>by simpa using ht,fun _=>h.1,fun h3=>by omega,fun _=>h.2,⟨by omega,by omega⟩,fun x hx=>by rw [h.2] at hx; cases hx⟩,by rw [hs,h.2]; simp⟩
    ·obtain ⟨_,_,f3,f4,_,f6,_,_⟩:=hF
     rw [f3 (by omega),f4 (by omega),f6 (by omega)]; rfl
    ·cases ht:(t.f_Text == []) with
     | false=>rw [ht] at h; cases h
     | true =>
      rw [ht] at h
      have h:=of_decide_eq_true h
      rw [nil_iff,nil_iff] at h
      exact h.2
   rw [if_neg (by simpa using k0)]
   by_cases k1:t.f_Kind = 1
   ·rw [if_pos (by rw [k1]; rfl),sum_i w2 w1]
    refine leaf _ ⟨fun h=>?_,fun ⟨hF,_⟩=>?_⟩ fun h=>?_
    ·have h:=of_decide_eq_true h
     rw [nil_iff,nil_iff] at h
     exact ⟨⟨by rw [h.2]; simp,by rw [h.1]; simp,fun h1=>(h1 k1).elim,fun _=>h.1,fun h3=>by omega,fun _=>h.2,⟨by omega,by omega⟩,fun x hx=>by rw [h.2] at hx; cases hx⟩,by rw [hs,h.2]; simp⟩
    ·obtain ⟨_,_,f3,f4,_,f6,_,_⟩:=hF
     rw [f4 (by omega),f6 (by omega)]; rfl
    ·have h:=of_decide_eq_true h
     rw [nil_iff,nil_iff] at h
     exact h.2
   rw [if_neg (by simpa using k1)]
   by_cases k2:t.f_Kind = 2
   ·rw [if_pos (by rw [k2]; rfl)]
    by_cases c:(bif (!(t.f_Text == [])) then true else (decide ((List.length t.f_Keys:Int) > 0))) = true
    ·rw [if_pos c]
     refine leaf false ⟨fun h=>(by cases h),fun ⟨hF,_⟩=>?_⟩ fun h=>by cases h
     obtain ⟨_,_,f3,f4,_,f6,_,_⟩:=hF
     rw [f3 (by omega),f4 (by omega)] at c
     exact absurd c (by decide)
    ·rw [if_neg c]
     have c:(bif (!(t.f_Text == [])) then true else (decide ((List.length t.f_Keys:Int) > 0))) = false:=by simpa using c
     have ct:t.f_Text = []:=by
      cases ht:(t.f_Text == []) with
      | false=>rw [ht] at c; cases c
      | true=>simpa using ht
     rw [ct] at c
     have c:decide ((List.length t.f_Keys:Int) > 0) = false:=c
     have c:=of_decide_eq_false c
     have ck:t.f_Keys = []:=(nil_iff _).1 (by omega)
     exact loop0 ⟨.inl k2,ct,fun _=>ck,fun h=>by omega⟩
   rw [if_neg (by simpa using k2)]
   by_cases k3:t.f_Kind = 3
   ·rw [if_pos (by rw [k3]; rfl)]
    have hc:∃ c,(bif (bif (!(t.f_Text == [])) then true else ((List.length t.f_Keys:Int) != (List.length t.f_Kids:Int))) then true else (decide ((List.length t.f_Keys:Int) > (l:Int)))) = c:=⟨_,rfl⟩
    obtain ⟨c,hc⟩:=hc
    simp only [hc]
    cases c with
    | true =>
     refine leaf false ⟨fun h=>(by cases h),fun ⟨hF,hz⟩=>?_⟩ fun h=>by cases h
     obtain ⟨_,_,f3,f4,f5,f6,_,_⟩:=hF
     obtain ⟨g1,g2⟩:=f5 k3
     rw [f3 (by omega)] at hc
     have e:((List.length t.f_Keys:Int) != (List.length t.f_Kids:Int)) = false:=by rw [g1]; simp
     have e2:decide ((List.length t.f_Keys:Int) > (l:Int)) = false:=decide_eq_false (by omega)
     rw [e,e2] at hc
     exact absurd hc (by decide)
    | false =>
     have ct:t.f_Text = []:=by
      cases ht:(t.f_Text == []) with
      | false=>rw [ht] at hc; cases hc
      | true=>simpa using ht
     rw [ct] at hc
     have hc:(bif ((List.length t.f_Keys:Int) != (List.length t.f_Kids:Int)) then true else (decide ((List.length t.f_Keys:Int) > (l:Int)))) = false:=hc
     have cl:t.f_Keys.length = t.f_Kids.length:=by
      cases hne:((List.length t.f_Keys:Int) != (List.length t.f_Kids:Int)) with
      | true=>rw [hne] at hc; cases hc
      | false =>
       simp only [bne_eq_false_iff_eq] at hne
       omega
     have e:((List.length t.f_Keys:Int) != (List.length t.f_Kids:Int)) = false:=by rw [cl]; simp
     rw [e] at hc
     have hc:decide ((List.length t.f_Keys:Int) > (l:Int)) = false:=hc
     have hc:=of_decide_eq_false hc
     have hso:=name_Sorted_eq n t.f_Keys (by omega)
     simp only [beq_self_eq_true,if_true,hso,Option.bind_some,lett,cond_false]
     by_cases hx:((List.length (srt t.f_Keys):Int) != (List.length t.f_Keys:Int)) = true
     ·rw [if_pos hx]
      refine leaf false ⟨fun h=>(by cases h),fun ⟨hF,hz⟩=>?_⟩ fun h=>by cases h
      obtain ⟨_,_,f3,f4,f5,f6,_,_⟩:=hF
      obtain ⟨g1,g2⟩:=f5 k3
      rw [srt_len g2] at hx
      exact absurd hx (by simp)
     ·rw [if_neg hx]
      simp only [bne_iff_ne,ne_eq,Decidable.not_not] at hx
      exact loop0 ⟨.inr k3,ct,fun h=>(h k3).elim,fun _=>⟨cl,srt_nodup (by omega)⟩⟩
   rw [if_neg (by simpa using k3)]
   exact leaf false ⟨fun h=>(by cases h),fun ⟨hF,_⟩=>by
    obtain ⟨_,_,_,_,_,_,f7,_⟩:=hF
    omega⟩ fun h=>by cases h
theorem node_Right_eq (n:Nat) (t:Nd) (hW:Wide 12 t) (hn:200000 ≤ n):∃ b,node_Right n t = some b ∧ (b = true ↔ Fit 12 t ∧ sz8 12 t ≤ 2000):=by
 obtain ⟨b,q,h1,h2,_⟩:=right_eq 12 n t 1 2000 (by decide) (by decide) (by decide) hW (by omega)
 have h1:node_budget_right__o0 n t 1 (S_node_budget.mk 2000) = some (b,q):=h1
 unfold node_Right
 rw [h1,Option.bind_some]
 exact ⟨b,rfl,h2⟩
theorem node_Right_yes (n:Nat) (t:Nd) (hF:Fit 12 t) (hz:sz8 12 t ≤ 2000) (hn:200000 ≤ n):node_Right n t = some true:=by
 obtain ⟨b,h1,h2⟩:=node_Right_eq n t hF.wide hn
 rw [h1,h2.2 ⟨hF,hz⟩]
theorem same_self:∀ (d n:Nat) (t:Nd),Fit d t → 100000 + d < n → ref08_Same n t t = some true
 | _,0,_,_,h=>by omega
 | 0,n + 1,t,h,_=>h.elim
 | d + 1,n + 1,t,hF,hn=>by
  obtain ⟨f1,f2,_,_,_,_,_,f8⟩:=hF
  show ref08_Same_b (ref08_Same n) n t t = _
  unfold ref08_Same_b
  have e1:(t.f_Kind != t.f_Kind) = false:=by simp
  have e2:(t.f_Text == t.f_Text) = true:=by simp
  have e3:((List.length t.f_Kids:Int) != (List.length t.f_Kids:Int)) = false:=by simp
  have l1:=scanL (L:=ref08_Same_l1 (ref08_Same n) n t t) t.f_Kids (fun _=>(none:Option Bool)) 0 (by omega)
   (fun k i h _=>by
    rw [ref08_Same_l1,if_pos (lt_i h),if_pos (in_i h),if_pos (in_i h),at_i h,same_self d n _ (f8 _ (List.getElem_mem h)) (by omega)]
    rfl)
   (fun k=>by rw [ref08_Same_l1,nlt_n]; rfl) n 0 (by omega) (by omega) (by omega)
  have l1:ref08_Same_l1 (ref08_Same n) n t t n 0 = _:=l1
  have e4:List.findSome? (fun _:Nd=>(none:Option Bool)) (t.f_Kids.drop 0) = none:=by
   rw [List.findSome?_eq_none_iff]; intro x _; rfl
  rw [e1,e2,e3,ref02_Same_eq n t.f_Keys t.f_Keys (by omega) (by omega),l1,e4]
  simp [lett]
theorem left_fit_l (R:Nd → Int → Int → Option Int) (n d:Nat) (dep:Int) (t:Nd) (hdep:0 ≤ dep ∧ dep < 100)
  (hR:∀ x ∈ t.f_Kids,∀ l:Nat,sz8 d x ≤ l → l ≤ 2000 → R x (dep + 1) (l:Int) = some ((l - sz8 d x:Nat):Int)) :
  ∀ (k l i:Nat),l + 1 < k → i ≤ t.f_Kids.length → i + l ≤ 2000 → ((t.f_Kids.drop i).map (sz8 d)).sum ≤ l →
   ref08_Left_l1 R n dep t k (l:Int) (i:Int) = some (.inl ((l - ((t.f_Kids.drop i).map (sz8 d)).sum:Nat):Int))
 | 0,l,i,h,_,_,_=>by omega
 | k + 1,l,i,hk,hi,hil,hs=>by
  by_cases h:i < t.f_Kids.length
  ·have e1:IntKind.wrap .i64 (dep + 1) = dep + 1:=wrap_id _ (by omega) (by omega)
   rw [drop_at h,List.map_cons,List.sum_cons] at hs ⊢
   have hp:=sz8_pos d t.f_Kids[i]
   rw [ref08_Left_l1,if_pos (lt_i h),if_pos (in_i h),at_i h,e1,hR _ (List.getElem_mem h) l (by omega) (by omega),Option.bind_some,if_neg (by simp),wrap_s i (by omega)]
   rw [left_fit_l R n d dep t hdep hR k (l - sz8 d t.f_Kids[i]) (i + 1) (by omega) (by omega) (by omega) (by omega)]
   congr 3
   omega
  ·have:i = t.f_Kids.length:=by omega
   subst this
   rw [ref08_Left_l1,nlt_n,List.drop_eq_nil_of_le (Nat.le_refl _)]
   simp
theorem left_fit:∀ (d n:Nat) (t:Nd) (dep:Int) (l:Nat),dep + (d:Int) = 13 → 0 ≤ dep → l ≤ 2000 → Fit d t → sz8 d t ≤ l → 100000 + d < n → ref08_Left n t dep (l:Int) = some ((l - sz8 d t:Nat):Int)
 | _,0,_,_,_,_,_,_,_,_,h=>by omega
 | 0,n + 1,t,dep,l,_,_,_,h,_,_=>h.elim
 | d + 1,n + 1,t,dep,l,hd,h0,hl,hF,hz,hn=>by
  show ref08_Left_b (ref08_Left n) n t dep (l:Int) = _
  obtain ⟨f1,f2,f3,f4,f5,f6,f7,f8⟩:=hF
  have hs:sz8 (d + 1) t = 1 + (t.f_Kids.map (sz8 d)).sum:=rfl
  have hsg:=sum_ge (d:=d) t.f_Kids
  obtain ⟨l,rfl⟩:∃ l',l = l' + 1:=⟨l - 1,by omega⟩
  unfold ref08_Left_b
  have e1:IntKind.wrap .i64 (((l + 1:Nat):Int) - 1) = (l:Int):=by rw [wrap_id _ (by omega) (by omega)]; omega
  simp only [lett,e1,bif_or,bif_and]
  have c1:(decide ((l:Int) < 0) || decide (dep > 12) || decide (t.f_Kind < 0) || decide (t.f_Kind > 3)) = false:=by
   simp only [Bool.or_eq_false_iff,decide_eq_false_iff_not]
   omega
  have c2:((t.f_Kind != 1 && decide ((List.length t.f_Text:Int) > 0)) || (t.f_Kind != 3 && decide ((List.length t.f_Keys:Int) > 0)) || (decide (t.f_Kind < 2) && decide ((List.length t.f_Kids:Int) > 0))) = false:=by
   have a1:(t.f_Kind != 1 && decide ((List.length t.f_Text:Int) > 0)) = false:=by
    by_cases h:t.f_Kind = 1
    ·rw [h]; rfl
    ·rw [f3 h]; simp
   have a2:(t.f_Kind != 3 && decide ((List.length t.f_Keys:Int) > 0)) = false:=by
    by_cases h:t.f_Kind = 3
    ·rw [h]; rfl
    ·rw [f4 h]; simp
   have a3:(decide (t.f_Kind < 2) && decide ((List.length t.f_Kids:Int) > 0)) = false:=by
    by_cases h:t.f_Kind < 2
    ·rw [f6 h]; simp
    ·rw [decide_eq_false h]; rfl
   rw [a1,a2,a3]; rfl
  rw [c1,c2]
  simp only [Bool.false_eq_true,if_false]
  have loop:=left_fit_l (ref08_Left n) n d dep t (by omega) (fun x hx l' g1 g2=>left_fit d n x (dep + 1) l' (by omega) (by omega) g2 (f8 x hx) g1 (by omega)) n l 0 (by omega) (Nat.zero_le _) (by omega) (by rw [List.drop_zero]; omega)
  have loop:ref08_Left_l1 (ref08_Left n) n dep t n (l:Int) 0 = _:=loop
  rw [List.drop_zero] at loop
  have fin:(l - (t.f_Kids.map (sz8 d)).sum:Nat) = l + 1 - sz8 (d + 1) t:=by omega
  rw [loop,fin]
  by_cases h3:t.f_Kind = 3
  ·obtain ⟨g1,g2⟩:=f5 h3
   have e3:(t.f_Kind == 3) = true:=by rw [h3]; rfl
   have c3:((List.length t.f_Keys:Int) != (List.length t.f_Kids:Int) || decide ((List.length t.f_Kids:Int) > (l:Int))) = false:=by
    rw [g1,decide_eq_false (by omega)]; simp
   have hso:=ref02_Sorted_eq n t.f_Keys (by omega) (by omega)
   rw [e3,c3,hso]
   simp [srt_len g2]
  ·have e3:(t.f_Kind == 3) = false:=by rw [beq_eq_false_iff_ne]; exact h3
   rw [e3]
   simp
end Go.Proofs.YtefojkdckfidcaaGreatDoor.M
