import Derived.Test.YtibgdilkodjojaaDoorQLoop
import Derived.Test.YtibgdilkodjojaaDoorQRxLib
import Derived.Lib.CountLaws
set_option linter.all false
namespace Go.Proofs.YtibgdilkodjojaaDoor.PL
open Go Go.Proofs.YtibgdilkodjojaaDoor.RX
theorem le_i {i n:Nat} (h:i ≤ n):decide (0 ≤ (i:Int) ∧ (i:Int) ≤ (n:Int)) = true:=decide_eq_true (by omega)
theorem str_fits {a b:Nat} (h:a + b ≤ 1000000000):decide (((a + b:Nat):Int) ≤ 9223372036854775807) = true:=decide_eq_true (by omega)
theorem tn (i:Nat):Int.toNat (i:Int) = i:=Int.toNat_natCast i
def upto (c:UInt8):BS → Option (BS × BS)
 | []=>none
 | b :: l=>if b = c then some ([],l) else (upto c l).map fun p=>(b :: p.1,p.2)
theorem upto_some {c:UInt8}:∀ {l p q:BS},upto c l = some (p,q) → l = p ++ c :: q ∧ c ∉ p
 | [],p,q,h=>by cases h
 | b :: l,p,q,h=>by
  unfold upto at h
  by_cases hb:b = c
  ·rw [if_pos hb] at h; cases h; exact ⟨by rw [hb]; rfl,by simp⟩
  ·rw [if_neg hb] at h
   obtain ⟨⟨p',q'⟩,hp,he⟩:=Option.map_eq_some_iff.1 h
   cases he
   obtain ⟨h1,h2⟩:=upto_some hp
   refine ⟨by rw [h1]; rfl,?_⟩
   simp only [List.mem_cons,not_or]
   exact ⟨fun e=>hb e.symm,h2⟩
theorem upto_app {c:UInt8}:∀ {p q:BS},c ∉ p → upto c (p ++ c :: q) = some (p,q)
 | [],q,_=>by simp [upto]
 | b :: p,q,h=>by
  simp only [List.mem_cons,not_or] at h
  rw [List.cons_append,upto,if_neg (fun e=>h.1 e.symm),upto_app h.2]; rfl
theorem ib_eq (c:UInt8):∀ l:BS,Lib.indexByte l c = match upto c l with | none=>-1 | some p=>(p.1.length:Int)
 | []=>rfl
 | b :: l=>by
  unfold Lib.indexByte upto
  by_cases h:b = c
  ·subst h; simp
  ·have h':(b == c) = false:=by simpa using h
   rw [h',if_neg h,ib_eq c l]
   cases upto c l with
   | none=>rfl
   | some p =>
    have:((p.1.length:Int) == -1) = false:=by rw [beq_eq_false_iff_ne]; omega
    simp [this]
theorem ix_eq (c:UInt8):∀ l:BS,Lib.index l [c] = Lib.indexByte l c
 | []=>rfl
 | b :: l=>by
  unfold Lib.index Lib.indexByte
  rw [ix_eq c l]
  have:[c].isPrefixOf (b :: l) = (b == c):=by
   rw [List.isPrefixOf,List.isPrefixOf,Bool.and_true,Bool.eq_iff_iff,beq_iff_eq,beq_iff_eq]
   exact eq_comm
  rw [this]
theorem cut_eq (c:UInt8) (l:BS):Lib.cut l [c] = match upto c l with | none=>(l,[],false) | some p=>(p.1,p.2,true):=by
 unfold Lib.cut
 rw [ix_eq,ib_eq]
 cases h:upto c l with
 | none=>rfl
 | some p =>
  obtain ⟨p,q⟩:=p
  obtain ⟨h1,_⟩:=upto_some h
  have hp:(0:Int) ≤ (p.length:Int):=by omega
  simp only
  rw [if_pos hp,tn,h1]
  have e1:(p ++ c :: q).take p.length = p:=List.take_left
  have e2:(p ++ c :: q).drop (p.length + [c].length) = q:=by
   rw [List.length_singleton,← List.drop_drop,List.drop_left]; rfl
  rw [e1,e2]
def sub (c:UInt8) (new:BS) (b:UInt8):BS:=if b = c then new else [b]
def parts (c:UInt8):BS → List BS
 | []=>[[]]
 | b :: t=>if b = c then [] :: parts c t else match parts c t with | []=>[[b]] | x :: r=>(b :: x) :: r
end Go.Proofs.YtibgdilkodjojaaDoor.PL
