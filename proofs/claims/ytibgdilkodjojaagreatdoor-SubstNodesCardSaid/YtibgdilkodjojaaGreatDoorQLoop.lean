import Derived.Test.YtibgdilkodjojaaGreatDoorQPlain
set_option linter.all false
namespace Go.Proofs.YtibgdilkodjojaaGreatDoor.PL
open Go Go.Proofs.YtibgdilkodjojaaGreatDoor.RX
theorem drop_at {α:Type} {l:List α} {i:Nat} (h:i < l.length):l.drop i = l[i] :: l.drop (i + 1):=List.drop_eq_getElem_cons h
def outF {ρ:Type}:Option ρ → Sum Unit ρ | some r=>.inr r | none=>.inl ()
@[simp] theorem outF_none {ρ:Type}:outF (none:Option ρ) = .inl ():=rfl
@[simp] theorem outF_some {ρ:Type} (r:ρ):outF (some r) = .inr r:=rfl
theorem scanL {α ρ:Type} {L:Nat → Int → Option (Sum Unit ρ)} (l:List α) (g:α → Option ρ) (i0:Nat) (hN:l.length < 1000000000)
  (hs:∀ k i (h:i < l.length),i0 ≤ i → L (k + 1) (i:Int) = match g l[i] with | some r=>some (.inr r) | none=>L k (IntKind.wrap .i64 ((i:Int) + 1)))
  (he:∀ k,L (k + 1) (l.length:Int) = some (.inl ())):∀ (k i:Nat),i0 ≤ i → i ≤ l.length → l.length - i < k → L k (i:Int) = some (outF ((l.drop i).findSome? g))
 | 0,i,_,_,h=>by omega
 | k + 1,i,h0,h1,h2=>by
  by_cases h:i < l.length
  ·rw [hs k i h h0,drop_at h,List.findSome?_cons]
   cases g l[i] with
   | some r=>rfl
   | none =>
    show L k _ = _
    rw [wrap_s i (by omega)]
    exact scanL l g i0 hN hs he k (i + 1) (by omega) (by omega) (by omega)
  ·have:i = l.length:=by omega
   subst this
   rw [he,List.drop_eq_nil_of_le (Nat.le_refl _)]; rfl
theorem gather {α σ ρ:Type} {L:Nat → σ → Int → Option ρ} (l:List α) (f:σ → α → σ) (fin:σ → ρ) (I:Nat → σ → Prop) (hN:l.length < 1000000000)
  (hs:∀ k s i (h:i < l.length),I i s → L (k + 1) s (i:Int) = L k (f s l[i]) (IntKind.wrap .i64 ((i:Int) + 1)))
  (hI:∀ s i (h:i < l.length),I i s → I (i + 1) (f s l[i]))
  (he:∀ k s,I l.length s → L (k + 1) s (l.length:Int) = some (fin s)):∀ (k i:Nat) (s:σ),i ≤ l.length → l.length - i < k → I i s → L k s (i:Int) = some (fin ((l.drop i).foldl f s)) ∧ I l.length ((l.drop i).foldl f s)
 | 0,i,s,_,h,_=>by omega
 | k + 1,i,s,h1,h2,hi=>by
  by_cases h:i < l.length
  ·rw [hs k s i h hi,drop_at h,List.foldl_cons,wrap_s i (by omega)]
   exact gather l f fin I hN hs hI he k (i + 1) _ (by omega) (by omega) (hI s i h hi)
  ·have:i = l.length:=by omega
   subst this
   rw [he _ _ hi,List.drop_eq_nil_of_le (Nat.le_refl _)]
   exact ⟨rfl,hi⟩
theorem foldl_app {α β:Type} (f:α → List β):∀ (l:List α) (acc:List β),l.foldl (fun acc x=>acc ++ f x) acc = acc ++ l.flatMap f
 | [],acc=>by simp
 | x :: l,acc=>by rw [List.foldl_cons,foldl_app f l,List.flatMap_cons,List.append_assoc]
theorem nlt_n {n:Nat}:decide ((n:Int) < (n:Int)) = false:=by simp
theorem cap_add {a b:Nat} (h:a + b ≤ 1000000000):decide ((a + b) * (16 + 1) ≤ limit) = true:=decide_eq_true (by show (a + b) * (16 + 1) ≤ 140737488355328; omega)
abbrev BS:=List UInt8
theorem bs_irrefl (a:BS):¬ a < a:=List.lt_irrefl a
theorem bs_trans {a b c:BS} (h:a < b) (h':b < c):a < c:=List.lt_trans h h'
theorem bs_not_lt {a b:BS}:¬ a < b ↔ b ≤ a:=List.not_lt
theorem bs_not_le {a b:BS}:¬ a ≤ b ↔ b < a:=List.not_le
theorem bs_antisymm {a b:BS} (h:a ≤ b) (h':b ≤ a):a = b:=List.le_antisymm h h'
theorem bs_le_trans {a b c:BS} (h:a ≤ b) (h':b ≤ c):a ≤ c:=List.le_trans h h'
theorem bs_total (a b:BS):a ≤ b ∨ b ≤ a:=List.le_total a b
theorem bs_le_of_lt {a b:BS} (h:a < b):a ≤ b:=List.le_of_lt h
theorem bs_lt_of_le_of_ne {a b:BS} (h:a ≤ b) (hn:a ≠ b):a < b:=bs_not_le.1 fun h'=>hn (bs_antisymm h h')
theorem bs_ne_of_lt {a b:BS} (h:a < b):a ≠ b:=fun e=>bs_irrefl b (e ▸ h)
theorem less_dec:∀ x y:BS,Op.bytesLess x y = decide (x < y)
 | [],[]=>by simp [Op.bytesLess]
 | _ :: _,[]=>by simp [Op.bytesLess]
 | [],_ :: _=>by simp [Op.bytesLess]
 | a :: x,b :: y=>by
  rw [Op.bytesLess,less_dec x y]
  simp only [List.cons_lt_cons_iff]
  by_cases h1:a < b <;> by_cases h2:a = b <;> by_cases h3:x < y <;> simp [h1,h2,h3]
theorem leq_dec (a b:BS):(Op.bytesLess a b || a == b) = decide (a ≤ b):=by
 rw [less_dec,Bool.eq_iff_iff]
 simp only [Bool.or_eq_true,decide_eq_true_eq,beq_iff_eq]
 constructor
 ·rintro (h | rfl)
  ·exact bs_le_of_lt h
  ·exact bs_not_lt.1 (bs_irrefl a)
 ·intro h
  by_cases e:a = b
  ·exact .inr e
  ·exact .inl (bs_lt_of_le_of_ne h e)
abbrev Asc (l:List BS):Prop:=l.Pairwise (· < ·)
theorem Asc.nodup {l:List BS} (h:Asc l):l.Nodup:=h.imp fun h=>bs_ne_of_lt h
theorem Asc.ext:∀ {l m:List BS},Asc l → Asc m → (∀ x,x ∈ l ↔ x ∈ m) → l = m
 | [],[],_,_,_=>rfl
 | [],b :: m,_,_,h=>by have:=(h b).2 (by simp); simp at this
 | a :: l,[],_,_,h=>by have:=(h a).1 (by simp); simp at this
 | a :: l,b :: m,hl,hm,h=>by
  obtain ⟨h1,h2⟩:=List.pairwise_cons.1 hl
  obtain ⟨h3,h4⟩:=List.pairwise_cons.1 hm
  have hab:a = b:=by
   rcases List.mem_cons.1 ((h a).1 (by simp)) with e | e
   ·exact e
   ·rcases List.mem_cons.1 ((h b).2 (by simp)) with e' | e'
    ·exact e'.symm
    ·exact absurd (bs_trans (h1 b e') (h3 a e)) (bs_irrefl a)
  subst hab
  congr 1
  refine Asc.ext h2 h4 fun x=>⟨fun hx=>?_,fun hx=>?_⟩
  ·rcases List.mem_cons.1 ((h x).1 (by simp [hx])) with e | e
   ·exact absurd (h1 x hx) (e ▸ bs_irrefl _)
   ·exact e
  ·rcases List.mem_cons.1 ((h x).2 (by simp [hx])) with e | e
   ·exact absurd (h3 x hx) (e ▸ bs_irrefl _)
   ·exact e
def ins (x:BS):List BS → List BS
 | []=>[x]
 | y :: l=>if x < y then x :: y :: l else if x = y then y :: l else y :: ins x l
def srt (l:List BS):List BS:=l.foldr ins []
theorem mem_ins {x z:BS}:∀ {l:List BS},z ∈ ins x l ↔ z = x ∨ z ∈ l
 | []=>by simp [ins]
 | y :: l=>by
  unfold ins
  split
  ·simp
  ·split
   ·rename_i h; subst h; simp
   ·simp only [List.mem_cons,mem_ins (l:=l)]
    constructor
    ·rintro (h | h | h) <;> simp [h]
    ·rintro (h | h | h) <;> simp [h]
theorem asc_ins {x:BS}:∀ {l:List BS},Asc l → Asc (ins x l)
 | [],_=>by simp [ins]
 | y :: l,h=>by
  obtain ⟨h1,h2⟩:=List.pairwise_cons.1 h
  unfold ins
  split
  ·rename_i hx
   refine List.pairwise_cons.2 ⟨fun z hz=>?_,h⟩
   rcases List.mem_cons.1 hz with rfl | hz
   ·exact hx
   ·exact bs_trans hx (h1 z hz)
  ·split
   ·exact h
   ·rename_i hx hy
    refine List.pairwise_cons.2 ⟨fun z hz=>?_,asc_ins h2⟩
    rcases mem_ins.1 hz with rfl | hz
    ·exact bs_lt_of_le_of_ne (bs_not_lt.1 hx) (fun e=>hy e.symm)
    ·exact h1 z hz
theorem asc_srt:∀ l:List BS,Asc (srt l)
 | []=>.nil
 | x :: l=>asc_ins (asc_srt l)
theorem mem_srt {z:BS}:∀ {l:List BS},z ∈ srt l ↔ z ∈ l
 | []=>by simp [srt]
 | x :: l=>by
  show z ∈ ins x (srt l) ↔ _
  rw [mem_ins,mem_srt,List.mem_cons]
theorem srt_ext {l m:List BS} (h:∀ x,x ∈ l ↔ x ∈ m):srt l = srt m:=Asc.ext (asc_srt l) (asc_srt m) fun x=>by rw [mem_srt,mem_srt,h]
theorem length_ins_le (x:BS):∀ l:List BS,(ins x l).length ≤ l.length + 1
 | []=>by simp [ins]
 | y :: l=>by
  unfold ins
  have:=length_ins_le x l
  split
  ·simp
  ·split
   ·simp
   ·simp; omega
theorem srt_length_le:∀ l:List BS,(srt l).length ≤ l.length
 | []=>by simp [srt]
 | x :: l=>by
  have:=length_ins_le x (srt l); have:=srt_length_le l
  show (ins x (srt l)).length ≤ _
  simp; omega
end Go.Proofs.YtibgdilkodjojaaGreatDoor.PL
