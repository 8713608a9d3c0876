import Derived.Test.YtaecmkldkljioaaQPlain
set_option linter.all false
namespace Go.Proofs.Ytaecmkldkljioaa.PL
open Go Go.Proofs.Ytaecmkldkljioaa.RX
theorem drop_at {α:Type} {l:List α} {i:Nat} (h:i < l.length):l.drop i = l[i] :: l.drop (i + 1):=List.drop_eq_getElem_cons h
def outF {ρ:Type}:Option ρ → Sum Unit ρ | some r=>.inr r | none=>.inl ()
@[simp] theorem outF_none {ρ:Type}:outF (none:Option ρ) = .inl ():=rfl
@[simp] theorem outF_some {ρ:Type} (r:ρ):outF (some r) = .inr r:=rfl
theorem scanL {α ρ:Type} {L:Nat → Int → Option (Sum Unit ρ)} (l:List α) (g:α → Option ρ) (i0:Nat) (hN:l.length < 1000000000)
  (hs:∀ k i (h:i < l.length),i0 ≤ i → L (k + 1) (i:Int) = match g l[i] with | some r=>some (.inr r) | none=>L k (IntKind.wrap .i64 ((i:Int) + 1)))
  (he:∀ k,L (k + 1) (l.length:Int) = some (.inl ())):∀ (k i:Nat),i0 ≤ i → i ≤ l.length → l.length - i < k → L k (i:Int) = some (outF ((l.drop i).findSome? g))
 | 0,i,_,_,h=>by omega
 | k + 1,i,h0,h1,h2=>by
  by_cases h:i < l.length
  ·rw [hs k i h h0,drop_at h,List.findSome?_cons]
   cases g l[i] with
   | some r=>rfl
   | none =>
    show L k _ = _
    rw [wrap_s i (by omega)]
    exact scanL l g i0 hN hs he k (i + 1) (by omega) (by omega) (by omega)
  ·have:i = l.length:=by omega
   subst this
   rw [he,List.drop_eq_nil_of_le (Nat.le_refl _)]; rfl
theorem gather {α σ ρ:Type} {L:Nat → σ → Int → Option ρ} (l:List α) (f:σ → α → σ) (fin:σ → ρ) (I:Nat → σ → Prop) (hN:l.length < 1000000000)
  (hs:∀ k s i (h:i < l.length),I i s → L (k + 1) s (i:Int) = L k (f s l[i]) (IntKind.wrap .i64 ((i:Int) + 1)))
  (hI:∀ s i (h:i < l.length),I i s → I (i + 1) (f s l[i]))
  (he:∀ k s,I l.length s → L (k + 1) s (l.length:Int) = some (fin s)):∀ (k i:Nat) (s:σ),i ≤ l.length → l.length - i < k → I i s → L k s (i:Int) = some (fin ((l.drop i).foldl f s)) ∧ I l.length ((l.drop i).foldl f s)
 | 0,i,s,_,h,_=>by omega
 | k + 1,i,s,h1,h2,hi=>by
  by_cases h:i < l.length
  ·rw [hs k s i h hi,drop_at h,List.foldl_cons,wrap_s i (by omega)]
   exact gather l f fin I hN hs hI he k (i + 1) _ (by omega) (by omega) (hI s i h hi)
  ·have:i = l.length:=by omega
   subst this
   rw [he _ _ hi,List.drop_eq_nil_of_le (Nat.le_refl _)]
   exact ⟨rfl,hi⟩
theorem nlt_n {n:Nat}:decide ((n:Int) < (n:Int)) = false:=by simp
abbrev BS:=List UInt8
theorem bs_irrefl (a:BS):¬ a < a:=List.lt_irrefl a
theorem bs_trans {a b c:BS} (h:a < b) (h':b < c):a < c:=List.lt_trans h h'
theorem bs_not_le {a b:BS}:¬ a ≤ b ↔ b < a:=List.not_le
theorem bs_antisymm {a b:BS} (h:a ≤ b) (h':b ≤ a):a = b:=List.le_antisymm h h'
theorem bs_total (a b:BS):a ≤ b ∨ b ≤ a:=List.le_total a b
theorem bs_lt_of_le_of_ne {a b:BS} (h:a ≤ b) (hn:a ≠ b):a < b:=bs_not_le.1 fun h'=>hn (bs_antisymm h h')
theorem bs_ne_of_lt {a b:BS} (h:a < b):a ≠ b:=fun e=>bs_irrefl b (e ▸ h)
theorem less_dec:∀ x y:BS,Op.bytesLess x y = decide (x < y)
 | [],[]=>by simp [Op.bytesLess]
 | _ :: _,[]=>by simp [Op.bytesLess]
 | [],_ :: _=>by simp [Op.bytesLess]
 | a :: x,b :: y=>by
  rw [Op.bytesLess,less_dec x y]
  simp only [List.cons_lt_cons_iff]
  by_cases h1:a < b <;> by_cases h2:a = b <;> by_cases h3:x < y <;> simp [h1,h2,h3]
abbrev Asc (l:List BS):Prop:=l.Pairwise (· < ·)
theorem Asc.ext:∀ {l m:List BS},Asc l → Asc m → (∀ x,x ∈ l ↔ x ∈ m) → l = m
 | [],[],_,_,_=>rfl
 | [],b :: m,_,_,h=>by have:=(h b).2 (by simp); simp at this
 | a :: l,[],_,_,h=>by have:=(h a).1 (by simp); simp at this
 | a :: l,b :: m,hl,hm,h=>by
  obtain ⟨h1,h2⟩:=List.pairwise_cons.1 hl
  obtain ⟨h3,h4⟩:=List.pairwise_cons.1 hm
  have hab:a = b:=by
   rcases List.mem_cons.1 ((h a).1 (by simp)) with e | e
   ·exact e
   ·rcases List.mem_cons.1 ((h b).2 (by simp)) with e' | e'
    ·exact e'.symm
    ·exact absurd (bs_trans (h1 b e') (h3 a e)) (bs_irrefl a)
  subst hab
  congr 1
  refine Asc.ext h2 h4 fun x=>⟨fun hx=>?_,fun hx=>?_⟩
  ·rcases List.mem_cons.1 ((h x).1 (by simp [hx])) with e | e
   ·exact absurd (h1 x hx) (e ▸ bs_irrefl _)
   ·exact e
  ·rcases List.mem_cons.1 ((h x).2 (by simp [hx])) with e | e
   ·exact absurd (h3 x hx) (e ▸ bs_irrefl _)
   ·exact e
end Go.Proofs.Ytaecmkldkljioaa.PL
