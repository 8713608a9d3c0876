import Derived.Test.YtibgdilkodjojaaGreatDoorQLoop
import Derived.Test.YtibgdilkodjojaaGreatDoorQRxLib
import Derived.Lib.CountLaws
set_option linter.all false
namespace Go.Proofs.YtibgdilkodjojaaGreatDoor.PL
open Go Go.Proofs.YtibgdilkodjojaaGreatDoor.RX
theorem le_i {i n:Nat} (h:i ≤ n):decide (0 ≤ (i:Int) ∧ (i:Int) ≤ (n:Int)) = true:=decide_eq_true (by omega)
theorem le_ij {i j:Nat} (h:i ≤ j):decide (0 ≤ (i:Int) ∧ (i:Int) ≤ (j:Int)) = true:=decide_eq_true (by omega)
theorem str_fits {a b:Nat} (h:a + b ≤ 1000000000):decide (((a + b:Nat):Int) ≤ 9223372036854775807) = true:=decide_eq_true (by omega)
theorem tn (i:Nat):Int.toNat (i:Int) = i:=Int.toNat_natCast i
theorem sub1 {S:BS} {i:Nat} (h:i < S.length):List.take (Int.toNat ((i + 1:Nat):Int) - Int.toNat (i:Int)) (List.drop (Int.toNat (i:Int)) S) = [S[i]]:=by
 rw [tn,tn,show i + 1 - i = 1 by omega,List.drop_eq_getElem_cons h]; rfl
theorem eq_i {i j:Nat}:((i:Int) == (j:Int)) = decide (i = j):=by
 rw [Bool.eq_iff_iff,beq_iff_eq,decide_eq_true_eq]; omega
def upto (c:UInt8):BS → Option (BS × BS)
 | []=>none
 | b :: l=>if b = c then some ([],l) else (upto c l).map fun p=>(b :: p.1,p.2)
theorem upto_none {c:UInt8}:∀ {l:BS},upto c l = none ↔ c ∉ l
 | []=>by simp [upto]
 | b :: l=>by
  unfold upto
  by_cases h:b = c
  ·subst h; simp
  ·rw [if_neg h,Option.map_eq_none_iff,upto_none]
   simp only [List.mem_cons,not_or]
   exact ⟨fun h'=>⟨fun e=>h e.symm,h'⟩,fun h'=>h'.2⟩
theorem upto_some {c:UInt8}:∀ {l p q:BS},upto c l = some (p,q) → l = p ++ c :: q ∧ c ∉ p
 | [],p,q,h=>by cases h
 | b :: l,p,q,h=>by
  unfold upto at h
  by_cases hb:b = c
  ·rw [if_pos hb] at h; cases h; exact ⟨by rw [hb]; rfl,by simp⟩
  ·rw [if_neg hb] at h
   obtain ⟨⟨p',q'⟩,hp,he⟩:=Option.map_eq_some_iff.1 h
   cases he
   obtain ⟨h1,h2⟩:=upto_some hp
   refine ⟨by rw [h1]; rfl,?_⟩
   simp only [List.mem_cons,not_or]
   exact ⟨fun e=>hb e.symm,h2⟩
theorem ib_eq (c:UInt8):∀ l:BS,Lib.indexByte l c = match upto c l with | none=>-1 | some p=>(p.1.length:Int)
 | []=>rfl
 | b :: l=>by
  unfold Lib.indexByte upto
  by_cases h:b = c
  ·subst h; simp
  ·have h':(b == c) = false:=by simpa using h
   rw [h',if_neg h,ib_eq c l]
   cases upto c l with
   | none=>rfl
   | some p =>
    have:((p.1.length:Int) == -1) = false:=by rw [beq_eq_false_iff_ne]; omega
    simp [this]
theorem ix_eq (c:UInt8):∀ l:BS,Lib.index l [c] = Lib.indexByte l c
 | []=>rfl
 | b :: l=>by
  unfold Lib.index Lib.indexByte
  rw [ix_eq c l]
  have:[c].isPrefixOf (b :: l) = (b == c):=by
   rw [List.isPrefixOf,List.isPrefixOf,Bool.and_true,Bool.eq_iff_iff,beq_iff_eq,beq_iff_eq]
   exact eq_comm
  rw [this]
theorem countFrom_eq (c:UInt8):∀ (fuel:Nat) (l:BS),l.length < fuel → Lib.countFrom [c] fuel l = l.count c
 | 0,l,h=>by omega
 | fuel + 1,l,h=>by
  unfold Lib.countFrom
  rw [ix_eq,ib_eq]
  cases hu:upto c l with
  | none =>
   rw [List.count_eq_zero.2 (upto_none.1 hu)]; rfl
  | some p =>
   obtain ⟨p,q⟩:=p
   obtain ⟨h1,h2⟩:=upto_some hu
   have hne:((p.length:Int) == -1) = false:=by rw [beq_eq_false_iff_ne]; omega
   simp only [hne,Bool.false_eq_true,if_false,tn,List.length_singleton]
   subst h1
   have e2:(p ++ c :: q).drop (p.length + 1) = q:=by rw [← List.drop_drop,List.drop_left]; rfl
   rw [e2,countFrom_eq c fuel q (by simp at h; omega),List.count_append,List.count_eq_zero.2 h2,List.count_cons_self]
   omega
theorem count_eq (c:UInt8) (l:BS):Lib.count l [c] = l.count c:=countFrom_eq c _ l (Nat.lt_succ_self _)
theorem countB_le (c:UInt8) (l:BS):Lib.countB ⟨l.toArray⟩ ⟨List.toArray [c]⟩ ≤ l.length:=by
 show Lib.count l [c] ≤ _
 rw [count_eq]; exact List.count_le_length
def sub (c:UInt8) (new:BS) (b:UInt8):BS:=if b = c then new else [b]
theorem flat_sub {c:UInt8} {new:BS}:∀ {l:BS},c ∉ l → l.flatMap (sub c new) = l
 | [],_=>rfl
 | b :: l,h=>by
  simp only [List.mem_cons,not_or] at h
  rw [List.flatMap_cons,flat_sub h.2,sub,if_neg (fun e=>h.1 e.symm)]; rfl
theorem replaceK_eq (c:UInt8) (new:BS):∀ (k:Nat) (l:BS),l.count c ≤ k → Lib.replaceK [c] new k l = l.flatMap (sub c new)
 | 0,l,h=>by
  rw [Lib.replaceK,flat_sub (List.count_eq_zero.1 (by omega))]
 | k + 1,l,h=>by
  unfold Lib.replaceK
  rw [ix_eq,ib_eq]
  cases hu:upto c l with
  | none=>rw [flat_sub (upto_none.1 hu)]; rfl
  | some p =>
   obtain ⟨p,q⟩:=p
   obtain ⟨h1,h2⟩:=upto_some hu
   have hne:((p.length:Int) == -1) = false:=by rw [beq_eq_false_iff_ne]; omega
   simp only [hne,Bool.false_eq_true,if_false,tn,List.length_singleton]
   subst h1
   have e1:(p ++ c :: q).take p.length = p:=List.take_left
   have e2:(p ++ c :: q).drop (p.length + 1) = q:=by rw [← List.drop_drop,List.drop_left]; rfl
   rw [List.count_append,List.count_cons_self] at h
   rw [e1,e2,replaceK_eq c new k q (by omega),List.flatMap_append,List.flatMap_cons,flat_sub h2,sub,if_pos rfl,List.append_assoc]
theorem replaceAll_eq (c:UInt8) (new l:BS) (hne:[c] ≠ new):Lib.replaceAll l [c] new = l.flatMap (sub c new):=by
 unfold Lib.replaceAll Lib.replace
 have h1:([c] == new) = false:=by simpa using hne
 have h2:Lib.replaceNum l [c] (-1) = Lib.count l [c]:=by simp [Lib.replaceNum]
 rw [h1,h2,count_eq,if_neg Bool.false_ne_true]
 exact replaceK_eq c new _ l (Nat.le_refl _)
def parts (c:UInt8):BS → List BS
 | []=>[[]]
 | b :: t=>if b = c then [] :: parts c t else match parts c t with | []=>[[b]] | x :: r=>(b :: x) :: r
end Go.Proofs.YtibgdilkodjojaaGreatDoor.PL
