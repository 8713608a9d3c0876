import Derived.Test.YtibgdilkodjojaaDoorQRxGen
import Derived.Sort.OwnSorted
import Derived.Shelf.Vars
import Derived.Shelf.Slices.CompactS
import Derived.Shelf.Spec.SlicesGrow
set_option linter.all false
namespace Go.Proofs.YtibgdilkodjojaaDoor.RX
open Go.RowKit Go.Sort
def encS:List UInt8 → List D:=fun x=>[.str x]
def strSort (l:List (List UInt8)):List (List UInt8):=l.mergeSort fun x y=>decide (x ≤ y)
section
variable {P:Program} {F:Fz} {w1:Pt P} {B:Env}
theorem callsB_grow {f et:Nat} {x:Int} {i:TypeInfo} {z:Value} {α:Type} {d:α} {enc:α → List D} (hf:FOK P f) (hg:GoodR (.recs d enc []))
  (hsz:i.size = (enc d).length) (hzs:z.cells.size = i.size)
  (h1:∀ (w:World),Calls P f #[.slice none 0 0,.int .i64 (0:Nat)] w fun e w'=>e = .returned (.slice none 0 0) ∧ w' = w)
  (h2:∀ (n:Nat) (w:World),0 < n → n * i.bytes ≤ 140737488355328 → n ≤ 4611686018427387904 → Calls P f #[.slice none 0 0,.int .i64 n] w fun e w' =>
   e = .returned (.slice (some ⟨w.heap.size,0,none⟩) 0 (grownCap w n 0 et)) ∧ w' = w.drew.alloc (.cells (#[] ++ Builtin.zeroCells z.cells n ++ Builtin.zeroCells z.cells (grownCap w n 0 et - n)) et))
  (hl:decide (0 ≤ x ∧ x * (i.bytes + 1:Nat) ≤ (limit:Int)) = true):CallsB P f [.val (.slice none 0 0),.val (.int .i64 x)] [] (.row 1) [(1,et,[.rowc false d enc []])]:=by
 refine ⟨hf,fun F w1 B args hb hr=>?_⟩
 have hlim:0 ≤ x ∧ x * (i.bytes + 1:Nat) ≤ ((140737488355328:Nat):Int):=of_decide_eq_true hl
 obtain ⟨n,rfl⟩:=Int.eq_ofNat_of_zero_le hlim.1
 have hn1:n * (i.bytes + 1) ≤ 140737488355328:=by exact_mod_cast hlim.2
 have hargs:args = [.slice none 0 0,.int .i64 n]:=by
  cases hr with
  | cons _ v _ vs h hs =>
   cases h
   cases hs with
   | cons _ v _ vs h hs=>cases h; cases hs; rfl
 subst hargs
 have hM:∀ (B':Env) (k t':Nat) (ds:List D),memL [] k t' ds → memL [] k t' ds ∧ k ≠ 1 ∧ B' k = B k ∧ ∀ (F:Fz) (w:World) (vs:List Value),RepL F w B ds vs → RepL F w B' ds vs:=fun B' k t' ds h=>by simp [memL] at h
 have hsub:∀ k t' ds,memL [(1,et,[D.rowc false d enc []])] k t' ds → memBox 1 et [.rowc false d enc []] (memL []) k t' ds:=by
  intro k t' ds h
  cases List.mem_singleton.1 h
  exact .inl ⟨rfl,rfl,rfl⟩
 by_cases h0:n = 0
 ·subst h0
  refine (h1 w1.w).mono ?_
  rintro e w' ⟨rfl,rfl⟩
  have hb2:=hb.row (t:=1) (e:=et) (m:=false) (d:=d) (enc:=enc) (l:=[]) (p:=none) (p0:=none) (n:=0) (cap:=0) (pre:=0) (xs:=[]) (w':=w1.w) rfl .nil hg
   ⟨by simp,.inl ⟨rfl,rfl,rfl⟩⟩ (.inl ⟨rfl,⟨rfl,rfl,rfl,Nat.le_refl _,fun _ _ _=>rfl⟩,fun b h=>by cases h⟩) (by simp) (fun b h=>by cases h) (B':=setB B 1 (.row none 0 0)) (setB_self _ _ _) (fun k hk=>setB_ne _ _ _ _ (by have:LIM = 1000000:=rfl; omega)) (M':=memL []) (hM _) (fun b h=>by cases h)
  exact ⟨_,_,_,rfl,.row 1 none 0 0 (setB_self _ _ _),hb2.1.sub hsub⟩
 ·have hnb:n * i.bytes ≤ 140737488355328:=Nat.le_trans (Nat.mul_le_mul_left _ (Nat.le_succ _)) hn1
  have hnn:n ≤ 140737488355328:=Nat.le_trans (Nat.le_mul_of_pos_right _ (Nat.succ_pos _)) hn1
  refine (h2 n w1.w (by omega) hnb (by omega)).mono ?_
  rintro e w' ⟨rfl,rfl⟩
  have hge:=grownCap_ge w1.w n 0 et
  have hcm:grownCap w1.w n 0 et ≤ maxLen:=grownCap_le_maxLen w1.w n 0 et (by simp only [maxLen]; omega)
  have hb2:=hb.row (t:=1) (e:=et) (m:=false) (d:=d) (enc:=enc) (l:=[]) (p:=some w1.w.heap.size) (p0:=none) (n:=0) (cap:=grownCap w1.w n 0 et) (pre:=0) (xs:=[]) (w':=w1.w.drew.alloc (.cells (#[] ++ Builtin.zeroCells z.cells n ++ Builtin.zeroCells z.cells (grownCap w1.w n 0 et - n)) et)) rfl .nil hg
   ⟨by simp,.inr ⟨w1.w.heap.size,_,_,rfl,heap_alloc_new w1.w.drew _,by simp,Nat.zero_le _,hcm,by
    simp only [Array.size_append,size_zeroCells,hzs,hsz]
    simp only [List.size_toArray,List.length_nil,Nat.zero_add,← Nat.add_mul]
    congr 1
    omega,by simp⟩⟩
   (.inr ⟨rfl,⟨rfl,rfl,rfl,by simp,fun k hk _=>heap_alloc_old w1.w.drew _ (by simpa using hk)⟩⟩) (by simp) (fun b h=>by cases h) (B':=setB B 1 (.row (some w1.w.heap.size) 0 (grownCap w1.w n 0 et))) (setB_self _ _ _) (fun k hk=>setB_ne _ _ _ _ (by have:LIM = 1000000:=rfl; omega)) (M':=memL []) (hM _) (fun b h=>by cases h)
  exact ⟨_,_,_,rfl,.row 1 _ 0 _ (setB_self _ _ _),hb2.1.sub hsub⟩
def infoOK (P:Program) (t size bytes:Nat):Bool:=match P.info? t with | some i=>(match i.zero with | some z=>z.cells.size == i.size && i.size == size && i.bytes == bytes | none=>false) | none=>false
theorem infoOK_spec {t size bytes:Nat} (h:infoOK P t size bytes = true):∃ i z,P.info? t = some i ∧ i.zero = some z ∧ z.cells.size = i.size ∧ i.size = size ∧ i.bytes = bytes:=by
 unfold infoOK at h
 split at h
 ·rename_i i hi
  split at h
  ·rename_i z hz
   simp only [Bool.and_eq_true,beq_iff_eq] at h
   exact ⟨i,z,hi,hz,h.1.1,h.1.2,h.2⟩
  ·cases h
 ·cases h
theorem callsB_growI {f et size bytes:Nat} {x:Int} {α:Type} {d:α} {enc:α → List D} (hf:FOK P f) (hg:GoodR (.recs d enc [])) (hi:infoOK P et size bytes = true) (hsz:size = (enc d).length)
  (h1:∀ (w:World),Calls P f #[.slice none 0 0,.int .i64 (0:Nat)] w fun e w'=>e = .returned (.slice none 0 0) ∧ w' = w)
  (h2:∀ (i:TypeInfo) (z:Value),P.info? et = some i → i.zero = some z → 0 < i.size → ∀ (n:Nat) (w:World),0 < n → n * i.bytes ≤ 140737488355328 → n ≤ 4611686018427387904 → Calls P f #[.slice none 0 0,.int .i64 n] w fun e w' =>
   e = .returned (.slice (some ⟨w.heap.size,0,none⟩) 0 (grownCap w n 0 et)) ∧ w' = w.drew.alloc (.cells (#[] ++ Builtin.zeroCells z.cells n ++ Builtin.zeroCells z.cells (grownCap w n 0 et - n)) et))
  (hl:decide (0 ≤ x ∧ x * ((bytes + 1:Nat):Int) ≤ (limit:Int)) = true):CallsB P f [.val (.slice none 0 0),.val (.int .i64 x)] [] (.row 1) [(1,et,[.rowc false d enc []])]:=by
 obtain ⟨i,z,e1,e2,e3,e4,e5⟩:=infoOK_spec hi
 subst e5
 exact callsB_grow hf hg (e4.trans hsz) e3 h1 (h2 i z e1 e2 (by rw [e4,hsz]; exact hg.1)) hl
end
end Go.Proofs.YtibgdilkodjojaaDoor.RX
