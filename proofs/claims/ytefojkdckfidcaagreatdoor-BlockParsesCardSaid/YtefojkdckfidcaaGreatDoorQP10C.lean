import Derived.Test.YtefojkdckfidcaaGreatDoorQP10B
set_option linter.all false
namespace Go.Proofs.YtefojkdckfidcaaGreatDoor.M
open Go Go.Proofs.YtefojkdckfidcaaGreatDoor.RX Go.Proofs.YtefojkdckfidcaaGreatDoor.PL
set_option maxRecDepth 100000
def blk9:BS → Nat
 | []=>0
 | c :: r=>if c = 32 then blk9 r + 1 else 0
def hd9:BS → Int
 | []=>0
 | c :: _=>(c.toNat:Int)
theorem blk9_le:∀ l:BS,blk9 l ≤ l.length
 | []=>Nat.le_refl 0
 | c :: r=>by unfold blk9; have:=blk9_le r; split <;> simp <;> omega
theorem blk9_drop (S:BS) (i:Nat) (h:i ≤ S.length):i + blk9 (S.drop i) ≤ S.length:=by
 have:=blk9_le (S.drop i)
 rw [List.length_drop] at this; omega
theorem next_l (n:Nat) (S:BS) (bad:Bool) (hS:S.length ≤ 100000000):∀ (k i:Nat),i ≤ S.length → S.length - i < k → flow_reader_next__o0_l1 n k (S_flow_reader.mk S (i:Int) bad) = some (S_flow_reader.mk S ((i + blk9 (S.drop i):Nat):Int) bad)
 | 0,i,_,h=>by omega
 | k + 1,i,h1,h2=>by
  rw [flow_reader_next__o0_l1]
  by_cases h:i < S.length
  ·simp only [lt_i h,in_i h,at_i h,Bool.or_true,if_true,lett,cond_true,b32]
   rw [drop_at h]
   unfold blk9
   by_cases hc:S[i] = 32
   ·rw [if_pos (decide_eq_true hc),if_pos hc,wrap_s i (by omega),next_l n S bad hS k (i + 1) (by omega) (by omega)]
    congr 2
    omega
   ·rw [if_neg (by simpa using hc),if_neg hc]; rfl
  ·have:i = S.length:=by omega
   subst this
   simp only [nlt_n]
   rw [List.drop_eq_nil_of_le (Nat.le_refl _)]
   rfl
theorem next_eq (n:Nat) (S:BS) (bad:Bool) (i:Nat) (hS:S.length ≤ 100000000) (hn:S.length < n) (hi:i ≤ S.length):flow_reader_next__o0 n (S_flow_reader.mk S (i:Int) bad) = some (hd9 (S.drop (i + blk9 (S.drop i))),S_flow_reader.mk S ((i + blk9 (S.drop i):Nat):Int) bad):=by
 have hb:=blk9_drop S i hi
 unfold flow_reader_next__o0
 rw [next_l n S bad hS n i hi (by omega),Option.bind_some]
 simp only
 generalize i + blk9 (S.drop i) = j at hb ⊢
 by_cases h:j < S.length
 ·have e:((j:Int) == (S.length:Int)) = false:=by rw [beq_eq_false_iff_ne]; omega
  rw [e,in_i h,at_i h,drop_at h]; rfl
 ·have:j = S.length:=by omega
  subst this
  rw [List.drop_eq_nil_of_le (Nat.le_refl _),if_pos (by simp)]; rfl
theorem take_eq (n:Nat) (S:BS) (bad:Bool) (i:Nat) (c:Int) (hS:S.length ≤ 100000000) (hn:S.length < n) (hi:i ≤ S.length):flow_reader_take__o0 n c (S_flow_reader.mk S (i:Int) bad) =
  some (if hd9 (S.drop (i + blk9 (S.drop i))) = c then (true,S_flow_reader.mk S ((i + blk9 (S.drop i) + 1:Nat):Int) bad) else (false,S_flow_reader.mk S ((i + blk9 (S.drop i):Nat):Int) bad)):=by
 have hb:=blk9_drop S i hi
 unfold flow_reader_take__o0
 rw [next_eq n S bad i hS hn hi,Option.bind_some]
 simp only
 generalize i + blk9 (S.drop i) = j at hb ⊢
 by_cases h:hd9 (S.drop j) = c
 ·rw [if_pos h,if_neg (by rw [h]; simp),wrap_s j (by omega)]
 ·rw [if_neg h,if_pos (by simpa using h)]
theorem hd_in {S:BS} {j:Nat} {c:Int} (h:hd9 (S.drop j) = c) (hc:c ≠ 0):j < S.length:=by
 rcases Nat.lt_or_ge j S.length with h1 | h1
 ·exact h1
 ·rw [List.drop_eq_nil_of_le h1] at h; exact (hc h.symm).elim
theorem take_tot (n:Nat) (S:BS) (bad:Bool) (i:Nat) (c:Int) (hc:c ≠ 0) (hS:S.length ≤ 100000000) (hn:S.length < n) (hi:i ≤ S.length):∃ (b:Bool) (j:Nat),flow_reader_take__o0 n c (S_flow_reader.mk S (i:Int) bad) = some (b,S_flow_reader.mk S (j:Int) bad) ∧ (i ≤ j ∧ j ≤ S.length) ∧ (b = true → i < j):=by
 have hb:=blk9_drop S i hi
 rw [take_eq n S bad i c hS hn hi]
 split
 ·rename_i h
  have:=hd_in h hc
  exact ⟨true,_,rfl,⟨by omega,by omega⟩,fun _=>by omega⟩
 ·exact ⟨false,_,rfl,⟨by omega,by omega⟩,fun h=>by cases h⟩
theorem scan_tot (n:Nat) (S:BS) (hS:S.length ≤ 100000000) (q:Int) (hq:q = 34 ∨ q = 39):∀ (k i:Nat) (acc:BS),S.length < k + i → acc.length ≤ i → acc.length ≤ S.length → ∃ r,quote_Scan_l1 n S q (k + 1) (i:Int) acc = some r ∧ (r = .inl () ∨ r = .inr ([],0,3) ∨ ∃ (t:BS) (j:Nat),r = .inr (t,(j:Int),0) ∧ i < j ∧ j ≤ S.length ∧ t.length ≤ S.length)
 | k,i,acc,h1,h2,h3=>by
  by_cases h:i < S.length
  ·obtain ⟨k,rfl⟩:∃ m,k = m + 1:=⟨k - 1,by omega⟩
   rcases hq with rfl | rfl
   ·rw [q34 n (k + 1) S acc i hS (by omega) h]
    split
    ·exact ⟨_,rfl,.inl rfl⟩
    split
    ·exact ⟨_,rfl,.inr (.inr ⟨acc,i + 1,rfl,by omega,by omega,h3⟩)⟩
    split
    ·cases hu:uesc (S.drop (i + 1)) with
     | none=>exact ⟨_,rfl,.inr (.inl rfl)⟩
     | some p =>
      obtain ⟨b,l⟩:=p
      have hl:=uesc_len hu
      rw [List.length_drop] at hl
      obtain ⟨r,g1,g2⟩:=scan_tot n S hS 34 (.inl rfl) k (i + l) (acc ++ [b]) (by omega) (by simp; omega) (by simp; omega)
      refine ⟨r,g1,?_⟩
      rcases g2 with g2 | g2 | ⟨t,j,g2,g3,g4⟩
      ·exact .inl g2
      ·exact .inr (.inl g2)
      ·exact .inr (.inr ⟨t,j,g2,by omega,g4⟩)
    ·obtain ⟨r,g1,g2⟩:=scan_tot n S hS 34 (.inl rfl) k (i + 1) (acc ++ [S[i]]) (by omega) (by simp; omega) (by simp; omega)
     refine ⟨r,g1,?_⟩
     rcases g2 with g2 | g2 | ⟨t,j,g2,g3,g4⟩
     ·exact .inl g2
     ·exact .inr (.inl g2)
     ·exact .inr (.inr ⟨t,j,g2,by omega,g4⟩)
   ·rw [q39 n (k + 1) S acc i hS (by omega) h]
    split
    ·exact ⟨_,rfl,.inl rfl⟩
    split
    ·by_cases hx:(if h':i + 1 < S.length then S[i + 1] == 39 else false) = true
     ·rw [if_pos hx]
      have hi2:i + 1 < S.length:=by
       by_cases h':i + 1 < S.length
       ·exact h'
       ·rw [dif_neg h'] at hx; cases hx
      obtain ⟨r,g1,g2⟩:=scan_tot n S hS 39 (.inr rfl) k (i + 2) (acc ++ [39]) (by omega) (by simp; omega) (by simp; omega)
      refine ⟨r,g1,?_⟩
      rcases g2 with g2 | g2 | ⟨t,j,g2,g3,g4⟩
      ·exact .inl g2
      ·exact .inr (.inl g2)
      ·exact .inr (.inr ⟨t,j,g2,by omega,g4⟩)
     ·rw [if_neg hx]
      exact ⟨_,rfl,.inr (.inr ⟨acc,i + 1,rfl,by omega,by omega,h3⟩)⟩
    ·obtain ⟨r,g1,g2⟩:=scan_tot n S hS 39 (.inr rfl) k (i + 1) (acc ++ [S[i]]) (by omega) (by simp; omega) (by simp; omega)
     refine ⟨r,g1,?_⟩
     rcases g2 with g2 | g2 | ⟨t,j,g2,g3,g4⟩
     ·exact .inl g2
     ·exact .inr (.inl g2)
     ·exact .inr (.inr ⟨t,j,g2,by omega,g4⟩)
  ·rw [q_end n k S acc q i (by omega)]
   exact ⟨_,rfl,.inl rfl⟩
theorem Scan_tot (n:Nat) (S:BS) (i:Nat) (hS:S.length ≤ 100000000) (hn:S.length + 1 < n) (h:i < S.length) (hc:S[i] = 34 ∨ S[i] = 39):quote_Scan n S (i:Int) = some ([],0,3) ∨ ∃ (t:BS) (j:Nat),quote_Scan n S (i:Int) = some (t,(j:Int),0) ∧ i < j ∧ j ≤ S.length ∧ t.length ≤ S.length:=by
 obtain ⟨m,rfl⟩:∃ m,n = m + 1:=⟨n - 1,by omega⟩
 rw [scan_open (m + 1) S i hS h hc]
 have hq:(S[i].toNat:Int) = 34 ∨ (S[i].toNat:Int) = 39:=by
  rcases hc with hc | hc <;> rw [hc]
  ·exact .inl rfl
  ·exact .inr rfl
 obtain ⟨r,g1,g2⟩:=scan_tot (m + 1) S hS _ hq m (i + 1) [] (by omega) (Nat.zero_le _) (Nat.zero_le _)
 rw [g1,Option.bind_some]
 rcases g2 with rfl | rfl | ⟨t,j,rfl,g3,g4⟩
 ·exact .inl rfl
 ·exact .inl rfl
 ·exact .inr ⟨t,j,rfl,by omega,g4⟩
def sp6:BS:=[32,44,91,93,123,125]
theorem ix6:∀ c:UInt8,decide ((Lib.indexByte ([32,44,91,93,123,125]:List UInt8) (Int.toNat (c.toNat:Int)).toUInt8) ≥ 0) = sp6.contains c:=byte_all (by decide +kernel)
def pl9:BS → Nat
 | []=>0
 | c :: r=>if (sp5.contains c || (c == 58 && (match r with | []=>true | d :: _=>sp6.contains d))) = true then 0 else pl9 r + 1
theorem ite_le {c:Prop} [Decidable c] {a b m:Nat} (h1:a ≤ m) (h2:b ≤ m):(if c then a else b) ≤ m:=by split <;> assumption
theorem pl9_le:∀ l:BS,pl9 l ≤ l.length
 | []=>Nat.le_refl 0
 | c :: r=>by
  have:=pl9_le r
  unfold pl9
  exact ite_le (Nat.zero_le _) (by rw [List.length_cons]; omega)
theorem plain_l (n:Nat) (v:Int) (S:BS) (bad:Bool) (hS:S.length ≤ 100000000):∀ (k i:Nat),i ≤ S.length → S.length - i < k → flow_reader_plain__o0_l1 n v k (S_flow_reader.mk S (i:Int) bad) = some (S_flow_reader.mk S ((i + pl9 (S.drop i):Nat):Int) bad)
 | 0,i,_,h=>by omega
 | k + 1,i,h1,h2=>by
  rw [flow_reader_plain__o0_l1]
  by_cases h:i < S.length
  ·rw [drop_at h]
   unfold pl9
   simp only [lt_i h,in_i h,at_i h,ix5,b58,if_true,lett,wrap_s i (by omega),eq_i,byte_eq]
   by_cases h':i + 1 < S.length
   ·have e1:decide (i + 1 = S.length) = false:=decide_eq_false (by omega)
    rw [drop_at h']
    simp only [e1,in_i h',at_i h',ix6,Bool.or_true,if_true,cond_false]
    have ec:(bif sp5.contains S[i] then true else bif S[i] == 58 then sp6.contains S[i + 1] else false) = (sp5.contains S[i] || (S[i] == 58 && sp6.contains S[i + 1])):=by
     cases sp5.contains S[i] <;> cases (S[i] == 58) <;> rfl
    rw [ec]
    by_cases hc:(sp5.contains S[i] || (S[i] == 58 && sp6.contains S[i + 1])) = true
    ·rw [if_pos hc,if_pos hc]; rfl
    ·rw [if_neg hc,if_neg hc,plain_l n v S bad hS k (i + 1) (by omega) (by omega),drop_at h']
     congr 2
     omega
   ·have e1:decide (i + 1 = S.length) = true:=decide_eq_true (by omega)
    rw [List.drop_eq_nil_of_le (by omega:S.length ≤ i + 1)]
    have ec:(bif sp5.contains S[i] then true else bif S[i] == 58 then true else false) = (sp5.contains S[i] || (S[i] == 58 && true)):=by
     cases sp5.contains S[i] <;> cases (S[i] == 58) <;> rfl
    simp only [e1,cond_true,ec,Bool.false_and,Bool.not_false,Bool.true_or,if_true,show (true == false) = false from rfl]
    by_cases hc:(sp5.contains S[i] || (S[i] == 58 && true)) = true
    ·rw [if_pos hc,if_pos hc]; rfl
    ·rw [if_neg hc,if_neg hc,plain_l n v S bad hS k (i + 1) (by omega) (by omega),List.drop_eq_nil_of_le (by omega:S.length ≤ i + 1)]
     rfl
  ·have:i = S.length:=by omega
   subst this
   rw [nlt_n,List.drop_eq_nil_of_le (Nat.le_refl _)]
   rfl
theorem plain_read (n:Nat) (S:BS) (bad:Bool) (i:Nat) (hS:S.length ≤ 100000000) (hn:S.length < n) (hi:i ≤ S.length):flow_reader_plain__o0 n (S_flow_reader.mk S (i:Int) bad) = some (Lib.trimRightB ((S.drop i).take (pl9 (S.drop i))) 32,S_flow_reader.mk S ((i + pl9 (S.drop i):Nat):Int) bad):=by
 have hp:=pl9_le (S.drop i)
 rw [List.length_drop] at hp
 unfold flow_reader_plain__o0
 simp only
 rw [plain_l n _ S bad hS n i hi (by omega),Option.bind_some]
 simp only [tn]
 have e:i + pl9 (S.drop i) - i = pl9 (S.drop i):=by omega
 rw [if_pos (le_i (by omega)),if_pos (le_ij (by omega)),e,if_pos (decide_eq_true (by rw [List.length_take,List.length_drop]; omega))]
theorem dropWhile_le {α:Type} (p:α → Bool):∀ l:List α,(l.dropWhile p).length ≤ l.length
 | []=>Nat.le_refl 0
 | x :: l=>by rw [List.dropWhile_cons]; have:=dropWhile_le p l; split <;> simp <;> omega
theorem trim_le (l:BS) (c:UInt8):(Lib.trimRightB l c).length ≤ l.length:=by
 unfold Lib.trimRightB
 rw [List.length_reverse]
 have:=dropWhile_le (· == c) l.reverse
 rwa [List.length_reverse] at this
theorem capS {a b:Nat} (h:a + b ≤ 1000000000):decide ((a + b) * (16 + 1) ≤ limit) = true:=decide_eq_true (by show (a + b) * (16 + 1) ≤ 140737488355328; omega)
def Red (m:Nat) (v:Nd):Prop:=∀ d,Wide d v ∧ Shk m d v
theorem Red.leaf {m:Nat} {t:BS} (h:t.length ≤ m):Red m (S_api_Node.mk 1 t [] []):=fun d=>by
 cases d with
 | zero=>exact ⟨trivial,trivial⟩
 | succ d=>exact ⟨⟨by simp,by simp,fun x hx=>(by cases hx)⟩,⟨h,fun k hk=>(by cases hk),fun x hx=>(by cases hx)⟩⟩
theorem Red.null {m:Nat}:Red m Z8:=fun d=>by
 cases d with
 | zero=>exact ⟨trivial,trivial⟩
 | succ d=>exact ⟨⟨by simp,by simp,fun x hx=>(by cases hx)⟩,⟨by simp,fun k hk=>(by cases hk),fun x hx=>(by cases hx)⟩⟩
theorem Red.node {m:Nat} {k:Int} {ks:List BS} {xs:List Nd} (h1:xs.length ≤ 1000000) (h2:ks.length ≤ 1000000) (h3:∀ k ∈ ks,k.length ≤ m) (h4:∀ x ∈ xs,Red m x):Red m (S_api_Node.mk k [] ks xs):=fun d=>by
 cases d with
 | zero=>exact ⟨trivial,trivial⟩
 | succ d=>exact ⟨⟨h1,h2,fun x hx=>(h4 x hx d).1⟩,⟨Nat.zero_le _,h3,fun x hx=>(h4 x hx d).2⟩⟩
theorem quoted_tot (n:Nat) (S:BS) (bad:Bool) (i:Nat) (hS:S.length ≤ 100000000) (hn:S.length + 1 < n) (h:i < S.length) (hc:S[i] = 34 ∨ S[i] = 39):∃ t j bad',flow_reader_quoted__o0 n (S_flow_reader.mk S (i:Int) bad) = some (t,S_flow_reader.mk S ((j:Nat):Int) bad') ∧ i ≤ j ∧ j ≤ S.length ∧ t.length ≤ S.length:=by
 unfold flow_reader_quoted__o0
 simp only
 rcases Scan_tot n S i hS hn h hc with h1 | ⟨t,j,h1,h2,h3,h4⟩
 ·rw [h1]
  exact ⟨[],i,true,rfl,Nat.le_refl _,by omega,Nat.zero_le _⟩
 ·rw [h1]
  exact ⟨t,j,bad,rfl,by omega,h3,h4⟩
theorem hd_byte {S:BS} {j:Nat} {c:UInt8} (hj:j < S.length):(hd9 (S.drop j) == (c.toNat:Int)) = decide (S[j] = c):=by
 rw [drop_at hj]
 show ((S[j].toNat:Int) == (c.toNat:Int)) = _
 rw [beq_bytes,byte_eq]
theorem scalar_tot (n:Nat) (s:BS) (m:Nat) (hs:s.length ≤ m) (hm:m ≤ 100000) (hn:200000 ≤ n):∃ x e,flow_Scalar n s true = some (x,e) ∧ Red m x:=by
 unfold flow_Scalar
 by_cases hw:s = [] ∨ s = [126] ∨ s = [110,117,108,108]
 ·refine ⟨Z8,0,?_,Red.null⟩
  rcases hw with rfl | rfl | rfl <;> rfl
 ·have hne:s ≠ []:=fun e=>hw (.inl e)
  have hlen:0 < s.length:=List.length_pos_iff.2 hne
  have e1:(s == []) = false:=by simpa using hne
  have e2:(s == [126]) = false:=by simp; exact fun e=>hw (.inr (.inl e))
  have e3:(s == [110,117,108,108]) = false:=by simp; exact fun e=>hw (.inr (.inr e))
  have z0:decide (0 ≤ (0:Int) ∧ (0:Int) < (List.length s:Int)) = true:=in_i hlen
  have z1:(s[Int.toNat 0]?.getD 0) = s[0]:=at_i hlen
  obtain ⟨r1,_⟩:=row_eq n s (by omega) hn
  rw [e1,e2,e3,z0,z1,b34,b39]
  simp only [Bool.or_true,if_true,cond_false,Bool.false_eq_true,if_false]
  by_cases hq:(bif decide (s[0] = 34) then true else decide (s[0] = 39)) = true
  ·rw [if_pos hq]
   have hq:s[0] = 34 ∨ s[0] = 39:=by
    by_cases h4:s[0] = 34
    ·exact .inl h4
    ·rw [decide_eq_false h4] at hq
     exact .inr (of_decide_eq_true hq)
   rcases Scan_tot n s 0 (by omega) (by omega) hlen hq with h1 | ⟨t,j,h1,h2,h3,h4⟩
   ·have h1:quote_Scan n s 0 = some ([],0,3):=h1
    rw [h1]
    exact ⟨Z8,3,rfl,Red.null⟩
   ·have h1:quote_Scan n s 0 = some (t,(j:Int),0):=h1
    rw [h1,Option.bind_some]
    by_cases hb:(bif ((0:Int) != 0) then true else ((j:Int) != (List.length s:Int))) = true
    ·exact ⟨Z8,3,by rw [if_pos hb],Red.null⟩
    ·exact ⟨_,0,by rw [if_neg hb]; rfl,Red.leaf (t:=t) (by omega)⟩
  ·rw [if_neg hq,if_pos (by rfl),r1,Option.bind_some]
   cases rowB s with
   | true=>exact ⟨_,0,rfl,Red.leaf hs⟩
   | false=>exact ⟨Z8,3,rfl,Red.null⟩
theorem key_tot (n:Nat) (S:BS) (bad:Bool) (i:Nat) (hS:S.length ≤ 100000) (hn:300000 ≤ n) (hi:i ≤ S.length):∃ k j bad',flow_reader_key__o0 n (S_flow_reader.mk S (i:Int) bad) = some (k,S_flow_reader.mk S ((j:Nat):Int) bad') ∧ i ≤ j ∧ j ≤ S.length ∧ k.length ≤ S.length:=by
 have hb:=blk9_drop S i hi
 unfold flow_reader_key__o0
 rw [next_eq n S bad i (by omega) (by omega) hi,Option.bind_some]
 simp only
 generalize hj:i + blk9 (S.drop i) = j at hb ⊢
 have hij:i ≤ j:=by omega
 have hfirst:∃ k j2 bad2,flow_reader_key__o0_j1 n (bif (hd9 (S.drop j) == 34) then true else (hd9 (S.drop j) == 39)) (S_flow_reader.mk S (j:Int) bad) = some (k,S_flow_reader.mk S ((j2:Nat):Int) bad2) ∧ j ≤ j2 ∧ j2 ≤ S.length ∧ k.length ≤ S.length:=by
  unfold flow_reader_key__o0_j1
  by_cases hq:(bif (hd9 (S.drop j) == 34) then true else (hd9 (S.drop j) == 39)) = true
  ·rw [if_pos hq]
   have hjl:j < S.length:=by
    rcases Nat.lt_or_ge j S.length with h1 | h1
    ·exact h1
    ·rw [List.drop_eq_nil_of_le h1] at hq; exact absurd hq (by decide)
   have a1:(hd9 (S.drop j) == 34) = decide (S[j] = 34):=hd_byte (c:=34) hjl
   have a2:(hd9 (S.drop j) == 39) = decide (S[j] = 39):=hd_byte (c:=39) hjl
   rw [a1,a2] at hq
   have hq:S[j] = 34 ∨ S[j] = 39:=by
    by_cases h4:S[j] = 34
    ·exact .inl h4
    ·rw [decide_eq_false h4] at hq
     exact .inr (of_decide_eq_true hq)
   obtain ⟨t,j2,b2,h1,h2,h3,h4⟩:=quoted_tot n S bad j (by omega) (by omega) hjl hq
   rw [h1]
   exact ⟨t,j2,b2,rfl,h2,h3,h4⟩
  ·rw [if_neg hq,plain_read n S bad j (by omega) (by omega) hb,Option.bind_some]
   have hp:=pl9_le (S.drop j)
   rw [List.length_drop] at hp
   have ht:=trim_le ((S.drop j).take (pl9 (S.drop j))) 32
   rw [List.length_take,List.length_drop] at ht
   obtain ⟨r1,_⟩:=row_eq n (Lib.trimRightB ((S.drop j).take (pl9 (S.drop j))) 32) (by omega) (by omega)
   simp only
   rw [r1,Option.bind_some]
   split
   ·exact ⟨_,_,_,rfl,by omega,by omega,by omega⟩
   ·exact ⟨_,_,_,rfl,by omega,by omega,by omega⟩
 obtain ⟨k,j2,bad2,h1,h2,h3,h4⟩:=hfirst
 rw [h1,Option.bind_some]
 simp only
 cases bad2 with
 | true=>exact ⟨k,j2,true,rfl,by omega,h3,h4⟩
 | false =>
  obtain ⟨b,j3,g1,⟨g2,g3⟩,_⟩:=take_tot n S false j2 58 (by decide) (by omega) (by omega) h3
  rw [if_pos (by rfl),g1,Option.bind_some]
  exact ⟨k,j3,_,rfl,by omega,g3,h4⟩
abbrev Rv:=S_flow_reader → Option (S_api_Node × Bool × S_flow_reader)
theorem seq_loop (R:Rv) (n:Nat) (S:BS) (i0:Nat) (hS:S.length ≤ 100000) (hn:300000 ≤ n)
  (hR:∀ i bad,i0 < i → i ≤ S.length → ∃ v sm j bad',R (S_flow_reader.mk S ((i:Nat):Int) bad) = some (v,sm,S_flow_reader.mk S ((j:Nat):Int) bad') ∧ i ≤ j ∧ j ≤ S.length ∧ Red S.length v) :
  ∀ (k i:Nat) (bad:Bool) (z:Nd) (xs:List Nd),i0 < i → i ≤ S.length → S.length - i < k → xs.length ≤ i → (∀ x ∈ xs,Red S.length x) →
   ∃ v j bad',flow_reader_seq__o0_g1_0 R n k z (S_api_Node.mk 2 [] [] xs) (S_flow_reader.mk S (i:Int) bad) = some (v,S_flow_reader.mk S ((j:Nat):Int) bad') ∧ i ≤ j ∧ j ≤ S.length ∧ Red S.length v
 | 0,i,_,_,_,_,_,h,_,_=>by omega
 | k + 1,i,bad,z,xs,h0,hi,hk,hx,hr=>by
  obtain ⟨v,sm,j,bad',r1,r2,r3,r4⟩:=hR i bad h0 hi
  rw [flow_reader_seq__o0_g1_0,r1,Option.bind_some]
  simp only
  split
  ·exact ⟨_,j,_,rfl,r2,r3,Red.node (by omega) (by simp) (fun k hk=>by cases hk) hr⟩
  ·have hl:(xs ++ [v]).length = xs.length + 1:=by simp
   have hrx:∀ x ∈ xs ++ [v],Red S.length x:=fun x hx=>by
    rcases List.mem_append.1 hx with hx | hx
    ·exact hr x hx
    ·rw [List.mem_singleton] at hx; subst hx; exact r4
   rw [if_pos (decide_eq_true (by show (xs.length + 1) * (72 + 1) ≤ 140737488355328; omega))]
   obtain ⟨b,j2,g1,⟨g2,g3⟩,g4⟩:=take_tot n S (bif bad' then true else (!sm)) j 44 (by decide) (by omega) (by omega) r3
   rw [g1,Option.bind_some]
   cases b with
   | true =>
    have:=g4 rfl
    obtain ⟨w,j3,b3,w1,w2,w3,w4⟩:=seq_loop R n S i0 hS hn hR k j2 _ z (xs ++ [v]) (by omega) g3 (by omega) (by omega) hrx
    exact ⟨w,j3,b3,by rw [if_pos rfl]; exact w1,by omega,w3,w4⟩
   | false =>
    obtain ⟨b2,j3,q1,⟨q2,q3⟩,_⟩:=take_tot n S (bif bad' then true else (!sm)) j2 93 (by decide) (by omega) (by omega) g3
    rw [if_neg Bool.false_ne_true]
    simp only
    rw [q1,Option.bind_some]
    exact ⟨_,j3,_,rfl,by omega,q3,Red.node (by omega) (by simp) (fun k hk=>by cases hk) hrx⟩
theorem seq_tot (R:Rv) (n:Nat) (S:BS) (i:Nat) (bad:Bool) (hS:S.length ≤ 100000) (hn:300000 ≤ n) (hi:i < S.length)
  (hR:∀ i' bad,i < i' → i' ≤ S.length → ∃ v sm j bad',R (S_flow_reader.mk S ((i':Nat):Int) bad) = some (v,sm,S_flow_reader.mk S ((j:Nat):Int) bad') ∧ i' ≤ j ∧ j ≤ S.length ∧ Red S.length v) :
  ∃ v j bad',flow_reader_seq__o0 R n (S_flow_reader.mk S (i:Int) bad) = some (v,S_flow_reader.mk S ((j:Nat):Int) bad') ∧ i ≤ j ∧ j ≤ S.length ∧ Red S.length v:=by
 suffices hg:∃ v j bad',flow_reader_seq__o0_g1_e R n n (S_api_Node.mk 0 [] [] []) (S_flow_reader.mk S (i:Int) bad) = some (v,S_flow_reader.mk S ((j:Nat):Int) bad') ∧ i ≤ j ∧ j ≤ S.length ∧ Red S.length v by
  obtain ⟨v,j,b,h1,h2⟩:=hg
  unfold flow_reader_seq__o0
  rw [h1]
  exact ⟨v,j,b,rfl,h2⟩
 have hrec:∀ k z i' bad',S.length < k → i < i' → i' ≤ S.length → ∀ v,Red S.length v → ∃ w j bad'',flow_reader_seq__o0_g1_0 R n k z (S_api_Node.mk 2 [] [] [v]) (S_flow_reader.mk S ((i':Nat):Int) bad') = some (w,S_flow_reader.mk S ((j:Nat):Int) bad'') ∧ i' ≤ j ∧ j ≤ S.length ∧ Red S.length w:=by
  intro k z i' bad' hk h1 h2 v hv
  refine seq_loop R n S i hS hn hR k i' bad' z [v] h1 h2 (by omega) (by simp; omega) fun x hx=>?_
  rw [List.mem_singleton] at hx; subst hx; exact hv
 obtain ⟨m,hm⟩:∃ m,n = m + 1:=⟨n - 1,by omega⟩
 rw [show flow_reader_seq__o0_g1_e R n n = flow_reader_seq__o0_g1_e R n (m + 1) by rw [← hm]]
 rw [flow_reader_seq__o0_g1_e]
 simp only
 rw [wrap_s i (by omega)]
 obtain ⟨b,j,g1,⟨g2,g3⟩,g4⟩:=take_tot n S bad (i + 1) 93 (by decide) (by omega) (by omega) (by omega)
 rw [g1,Option.bind_some]
 cases b with
 | true=>exact ⟨_,j,_,rfl,by omega,g3,Red.node (by simp) (by simp) (fun k hk=>by cases hk) (fun x hx=>by cases hx)⟩
 | false =>
  rw [if_neg Bool.false_ne_true]
  obtain ⟨v,sm,j2,bad2,r1,r2,r3,r4⟩:=hR j bad (by omega) g3
  simp only
  rw [r1,Option.bind_some]
  simp only
  split
  ·exact ⟨_,j2,_,rfl,by omega,r3,Red.node (by simp) (by simp) (fun k hk=>by cases hk) (fun x hx=>by cases hx)⟩
  ·rw [if_pos (by rfl)]
   obtain ⟨b3,j3,q1,⟨q2,q3⟩,q4⟩:=take_tot n S (bif bad2 then true else (!sm)) j2 44 (by decide) (by omega) (by omega) r3
   rw [q1,Option.bind_some]
   cases b3 with
   | true =>
    obtain ⟨w,j4,b4,w1,w2,w3,w4⟩:=hrec m (S_api_Node.mk 0 [] [] []) j3 (bif bad2 then true else (!sm)) (by omega) (by omega) q3 v r4
    exact ⟨w,j4,b4,w1,by omega,w3,w4⟩
   | false =>
    obtain ⟨b4,j4,p1,⟨p2,p3⟩,_⟩:=take_tot n S (bif bad2 then true else (!sm)) j3 93 (by decide) (by omega) (by omega) q3
    rw [if_neg Bool.false_ne_true]
    simp only
    rw [p1,Option.bind_some]
    exact ⟨_,j4,_,rfl,by omega,p3,Red.node (by simp) (by simp) (fun k hk=>by cases hk) (fun x hx=>by
     have hx:x ∈ [v]:=hx
     rw [List.mem_singleton] at hx; subst hx; exact r4)⟩
theorem mlook_mput {α:Type} (x y:MK) (v:α):∀ l:List (MK × α),mlook (mput l x v) y = if x = y then some v else mlook l y
 | []=>by unfold mput mlook; simp [mlook]
 | p :: r=>by
  unfold mput
  by_cases h1:p.1 = x
  ·rw [if_pos h1]
   unfold mlook
   by_cases h2:x = y
   ·rw [if_pos h2,if_pos h2]
   ·rw [if_neg h2,if_neg h2,if_neg (by rw [h1]; exact h2)]
  ·rw [if_neg h1]
   unfold mlook
   rw [mlook_mput x y v r]
   by_cases h2:p.1 = y
   ·rw [if_pos h2,if_pos h2,if_neg (fun e=>h1 (by rw [h2,e]))]
   ·rw [if_neg h2,if_neg h2]
def Onc (b:List (MK × Int)):Prop:=∀ x,mlook b x = none ∨ mlook b x = some 1
theorem onc_step {b:List (MK × Int)} {x:MK} (h:Onc b):(mlook b x = none → Onc (mput b x (IntKind.wrap .i64 (((mlook b x).getD 0) + 1))) ∧ (mlook (mput b x (IntKind.wrap .i64 (((mlook b x).getD 0) + 1))) x).getD 0 = 1) ∧ (mlook b x ≠ none → (mlook (mput b x (IntKind.wrap .i64 (((mlook b x).getD 0) + 1))) x).getD 0 = 2):=by
 have w1:IntKind.wrap .i64 ((0:Int) + 1) = 1:=by decide
 have w2:IntKind.wrap .i64 ((1:Int) + 1) = 2:=by decide
 constructor
 ·intro e
  rw [e]
  show Onc (mput b x (IntKind.wrap .i64 ((0:Int) + 1))) ∧ (mlook (mput b x (IntKind.wrap .i64 ((0:Int) + 1))) x).getD 0 = 1
  rw [w1]
  refine ⟨fun y=>?_,by rw [mlook_mput,if_pos rfl]; rfl⟩
  rw [mlook_mput]
  split
  ·exact .inr rfl
  ·exact h y
 ·intro e
  rcases h x with h1 | h1
  ·exact (e h1).elim
  ·rw [h1]
   show (mlook (mput b x (IntKind.wrap .i64 ((1:Int) + 1))) x).getD 0 = 2
   rw [w2,mlook_mput,if_pos rfl]; rfl
theorem pairs_loop (R:Rv) (n:Nat) (S:BS) (i0:Nat) (hS:S.length ≤ 100000) (hn:300000 ≤ n)
  (hR:∀ i bad,i0 < i → i ≤ S.length → ∃ v sm j bad',R (S_flow_reader.mk S ((i:Nat):Int) bad) = some (v,sm,S_flow_reader.mk S ((j:Nat):Int) bad') ∧ i ≤ j ∧ j ≤ S.length ∧ Red S.length v) :
  ∀ (k i:Nat) (bad:Bool) (z:Nd) (b:List (MK × Int)) (ks:List BS) (xs:List Nd),i0 < i → i ≤ S.length → S.length - i < k → ks.length ≤ i → xs.length ≤ i → (∀ k ∈ ks,k.length ≤ S.length) → (∀ x ∈ xs,Red S.length x) → Onc b →
   ∃ v j bad',flow_reader_pairs__o0_g1_0 R n k z (S_api_Node.mk 3 [] ks xs) b (S_flow_reader.mk S (i:Int) bad) = some (v,S_flow_reader.mk S ((j:Nat):Int) bad') ∧ i ≤ j ∧ j ≤ S.length ∧ Red S.length v
 | 0,i,_,_,_,_,_,_,_,h,_,_,_,_,_=>by omega
 | k + 1,i,bad,z,b,ks,xs,h0,hi,hk,hkl,hxl,hkr,hxr,hb=>by
  obtain ⟨key,j,bad1,k1,k2,k3,k4⟩:=key_tot n S bad i hS hn hi
  rw [flow_reader_pairs__o0_g1_0,k1,Option.bind_some]
  simp only [lett]
  obtain ⟨o1,o2⟩:=onc_step (x:=.inl key) hb
  split
  ·exact ⟨_,j,_,rfl,k2,k3,Red.node (by omega) (by omega) hkr hxr⟩
  ·rename_i hc
   have hnone:mlook b (.inl key) = none:=by
    rcases hb (.inl key) with h1 | h1
    ·exact h1
    ·exfalso
     apply hc
     rw [o2 (by rw [h1]; simp)]
     cases bad1 <;> rfl
   obtain ⟨o3,_⟩:=o1 hnone
   obtain ⟨v,sm,j2,bad2,r1,r2,r3,r4⟩:=hR j bad1 (by omega) k3
   rw [r1,Option.bind_some]
   simp only
   rw [if_pos (capS (by simp only [List.length_cons,List.length_nil]; omega)),if_pos (decide_eq_true (by show (xs.length + 1) * (72 + 1) ≤ 140737488355328; omega))]
   have hl:(xs ++ [v]).length = xs.length + 1:=by simp
   have hl2:(ks ++ [key]).length = ks.length + 1:=by simp
   have hrx:∀ x ∈ xs ++ [v],Red S.length x:=fun x hx=>by
    rcases List.mem_append.1 hx with hx | hx
    ·exact hxr x hx
    ·rw [List.mem_singleton] at hx; subst hx; exact r4
   have hrk:∀ x ∈ ks ++ [key],x.length ≤ S.length:=fun x hx=>by
    rcases List.mem_append.1 hx with hx | hx
    ·exact hkr x hx
    ·rw [List.mem_singleton] at hx; subst hx; exact k4
   split
   ·exact ⟨_,j2,_,rfl,by omega,r3,Red.node (by omega) (by omega) hrk hrx⟩
   ·obtain ⟨b3,j3,q1,⟨q2,q3⟩,q4⟩:=take_tot n S bad2 j2 44 (by decide) (by omega) (by omega) r3
    rw [q1,Option.bind_some]
    cases b3 with
    | true =>
     have:=q4 rfl
     obtain ⟨w,j4,b4,w1,w2,w3,w4⟩:=pairs_loop R n S i0 hS hn hR k j3 bad2 z _ (ks ++ [key]) (xs ++ [v]) (by omega) q3 (by omega) (by omega) (by omega) hrk hrx o3
     exact ⟨w,j4,b4,w1,by omega,w3,w4⟩
    | false =>
     obtain ⟨b4,j4,p1,⟨p2,p3⟩,_⟩:=take_tot n S bad2 j3 125 (by decide) (by omega) (by omega) q3
     rw [if_neg Bool.false_ne_true]
     simp only
     rw [p1,Option.bind_some]
     exact ⟨_,j4,_,rfl,by omega,p3,Red.node (by omega) (by omega) hrk hrx⟩
theorem pairs_tot (R:Rv) (n:Nat) (S:BS) (i:Nat) (bad:Bool) (hS:S.length ≤ 100000) (hn:300000 ≤ n) (hi:i < S.length)
  (hR:∀ i' bad,i < i' → i' ≤ S.length → ∃ v sm j bad',R (S_flow_reader.mk S ((i':Nat):Int) bad) = some (v,sm,S_flow_reader.mk S ((j:Nat):Int) bad') ∧ i' ≤ j ∧ j ≤ S.length ∧ Red S.length v) :
  ∃ v j bad',flow_reader_pairs__o0 R n (S_flow_reader.mk S (i:Int) bad) = some (v,S_flow_reader.mk S ((j:Nat):Int) bad') ∧ i ≤ j ∧ j ≤ S.length ∧ Red S.length v:=by
 suffices hg:∃ v j bad',flow_reader_pairs__o0_g1_e R n n (S_api_Node.mk 0 [] [] []) (S_flow_reader.mk S (i:Int) bad) = some (v,S_flow_reader.mk S ((j:Nat):Int) bad') ∧ i ≤ j ∧ j ≤ S.length ∧ Red S.length v by
  obtain ⟨v,j,b,h1,h2⟩:=hg
  unfold flow_reader_pairs__o0
  rw [h1]
  exact ⟨v,j,b,rfl,h2⟩
 have hone:Onc []:=fun x=>.inl rfl
 obtain ⟨m,hm⟩:∃ m,n = m + 1:=⟨n - 1,by omega⟩
 rw [show flow_reader_pairs__o0_g1_e R n n = flow_reader_pairs__o0_g1_e R n (m + 1) by rw [← hm]]
 rw [flow_reader_pairs__o0_g1_e]
 simp only
 rw [wrap_s i (by omega)]
 obtain ⟨b,j,g1,⟨g2,g3⟩,g4⟩:=take_tot n S bad (i + 1) 125 (by decide) (by omega) (by omega) (by omega)
 rw [g1,Option.bind_some]
 cases b with
 | true=>exact ⟨_,j,_,rfl,by omega,g3,Red.node (by simp) (by simp) (fun k hk=>by cases hk) (fun x hx=>by cases hx)⟩
 | false =>
  rw [if_neg Bool.false_ne_true]
  obtain ⟨key,j1,bad1,k1,k2,k3,k4⟩:=key_tot n S bad j hS hn g3
  simp only
  rw [k1,Option.bind_some]
  simp only [lett]
  obtain ⟨o1,_⟩:=onc_step (x:=.inl key) hone
  obtain ⟨o3,_⟩:=o1 rfl
  split
  ·exact ⟨_,j1,_,rfl,by omega,k3,Red.node (by simp) (by simp) (fun k hk=>by cases hk) (fun x hx=>by cases hx)⟩
  ·obtain ⟨v,sm,j2,bad2,r1,r2,r3,r4⟩:=hR j1 bad1 (by omega) k3
   rw [r1,Option.bind_some]
   simp only
   rw [if_pos (by rfl),if_pos (by rfl)]
   have hrx:∀ x ∈ [v],Red S.length x:=fun x hx=>by rw [List.mem_singleton] at hx; subst hx; exact r4
   have hrk:∀ x ∈ [key],x.length ≤ S.length:=fun x hx=>by rw [List.mem_singleton] at hx; subst hx; exact k4
   split
   ·exact ⟨_,j2,_,rfl,by omega,r3,Red.node (by simp) (by simp) hrk hrx⟩
   ·obtain ⟨b3,j3,q1,⟨q2,q3⟩,q4⟩:=take_tot n S bad2 j2 44 (by decide) (by omega) (by omega) r3
    rw [q1,Option.bind_some]
    cases b3 with
    | true =>
     obtain ⟨w,j4,b4,w1,w2,w3,w4⟩:=pairs_loop R n S i hS hn hR m j3 bad2 (S_api_Node.mk 0 [] [] []) _ [key] [v] (by omega) q3 (by omega) (by simp; omega) (by simp; omega) hrk hrx o3
     exact ⟨w,j4,b4,w1,by omega,w3,w4⟩
    | false =>
     obtain ⟨b4,j4,p1,⟨p2,p3⟩,_⟩:=take_tot n S bad2 j3 125 (by decide) (by omega) (by omega) q3
     rw [if_neg Bool.false_ne_true]
     simp only
     rw [p1,Option.bind_some]
     exact ⟨_,j4,_,rfl,by omega,p3,Red.node (by simp) (by simp) hrk hrx⟩
theorem value_tot (S:BS) (hS:S.length ≤ 100000):∀ (q n i:Nat) (bad:Bool),i ≤ S.length → S.length - i < q → 300000 + q < n →
  ∃ v sm j bad',flow_reader_value__o0 n (S_flow_reader.mk S (i:Int) bad) = some (v,sm,S_flow_reader.mk S ((j:Nat):Int) bad') ∧ i ≤ j ∧ j ≤ S.length ∧ Red S.length v
 | 0,_,_,_,_,h,_=>by omega
 | q + 1,0,_,_,_,_,h=>by omega
 | q + 1,n + 1,i,bad,hi,hq,hn=>by
  show ∃ v sm j bad',flow_reader_value__o0_b (flow_reader_value__o0 n) n (S_flow_reader.mk S (i:Int) bad) = some (v,sm,S_flow_reader.mk S ((j:Nat):Int) bad') ∧ _
  have hb:=blk9_drop S i hi
  have hR:∀ i' bad,i < i' → i' ≤ S.length → ∃ v sm j bad',flow_reader_value__o0 n (S_flow_reader.mk S ((i':Nat):Int) bad) = some (v,sm,S_flow_reader.mk S ((j:Nat):Int) bad') ∧ i' ≤ j ∧ j ≤ S.length ∧ Red S.length v :=
   fun i' bad h1 h2=>value_tot S hS q n i' bad h2 (by omega) (by omega)
  unfold flow_reader_value__o0_b
  rw [next_eq n S bad i (by omega) (by omega) hi,Option.bind_some]
  simp only
  generalize hj:i + blk9 (S.drop i) = j at hb ⊢
  have hij:i ≤ j:=by omega
  unfold flow_reader_value__o0_j1
  by_cases c1:hd9 (S.drop j) = 91
  ·rw [if_pos (by rw [c1]; rfl)]
   have hjl:=hd_in c1 (by decide)
   obtain ⟨v,j2,b2,h1,h2,h3,h4⟩:=seq_tot (flow_reader_value__o0 n) n S j bad hS (by omega) hjl (fun i' b g1 g2=>hR i' b (by omega) g2)
   rw [h1]
   exact ⟨v,true,j2,b2,rfl,by omega,h3,h4⟩
  rw [if_neg (by simpa using c1)]
  by_cases c2:hd9 (S.drop j) = 123
  ·rw [if_pos (by rw [c2]; rfl)]
   have hjl:=hd_in c2 (by decide)
   obtain ⟨v,j2,b2,h1,h2,h3,h4⟩:=pairs_tot (flow_reader_value__o0 n) n S j bad hS (by omega) hjl (fun i' b g1 g2=>hR i' b (by omega) g2)
   rw [h1]
   exact ⟨v,true,j2,b2,rfl,by omega,h3,h4⟩
  rw [if_neg (by simpa using c2)]
  have hj2:flow_reader_value__o0_j2 (flow_reader_value__o0 n) n (hd9 (S.drop j)) (hd9 (S.drop j) == 34) (S_api_Node.mk 0 [] [] []) (S_flow_reader.mk S (j:Int) bad) = some (decide (hd9 (S.drop j) = 34 ∨ hd9 (S.drop j) = 39)):=by
   unfold flow_reader_value__o0_j2
   by_cases h1:hd9 (S.drop j) = 34
   ·rw [if_pos (by rw [h1]; rfl),h1]; rfl
   ·have:(hd9 (S.drop j) == 34) = false:=by simpa using h1
    rw [this,if_neg Bool.false_ne_true]
    congr 1
    rw [Bool.eq_iff_iff,beq_iff_eq,decide_eq_true_eq]
    exact ⟨fun h=>.inr h,fun h=>h.resolve_left h1⟩
  rw [hj2,Option.bind_some]
  by_cases c3:hd9 (S.drop j) = 34 ∨ hd9 (S.drop j) = 39
  ·rw [if_pos (decide_eq_true c3)]
   have hjl:j < S.length:=by
    rcases c3 with h | h
    ·exact hd_in h (by decide)
    ·exact hd_in h (by decide)
   have hq:S[j] = 34 ∨ S[j] = 39:=by
    have a1:(hd9 (S.drop j) == 34) = decide (S[j] = 34):=hd_byte (c:=34) hjl
    have a2:(hd9 (S.drop j) == 39) = decide (S[j] = 39):=hd_byte (c:=39) hjl
    rcases c3 with h | h
    ·rw [h] at a1; exact .inl (of_decide_eq_true a1.symm)
    ·rw [h] at a2; exact .inr (of_decide_eq_true a2.symm)
   obtain ⟨t,j2,b2,h1,h2,h3,h4⟩:=quoted_tot n S bad j (by omega) (by omega) hjl hq
   rw [h1]
   exact ⟨_,true,j2,b2,rfl,by omega,h3,Red.leaf h4⟩
  ·rw [if_neg (by simpa using c3)]
   simp only [Option.bind_some,Sum.elim_inl]
   rw [plain_read n S bad j (by omega) (by omega) hb,Option.bind_some]
   have hp:=pl9_le (S.drop j)
   rw [List.length_drop] at hp
   have ht:=trim_le ((S.drop j).take (pl9 (S.drop j))) 32
   rw [List.length_take,List.length_drop] at ht
   obtain ⟨x,e,h1,h2⟩:=scalar_tot n (Lib.trimRightB ((S.drop j).take (pl9 (S.drop j))) 32) S.length (by omega) hS (by omega)
   simp only
   rw [h1,Option.bind_some]
   exact ⟨x,_,_,_,rfl,by omega,by omega,h2⟩
theorem blk9_cons (c:UInt8) (r:BS):blk9 (c :: r) = if c = 32 then blk9 r + 1 else 0:=rfl
theorem blk9_none {S:BS} {i:Nat} (_:i ≤ S.length):blk9 (S.drop (i + blk9 (S.drop i))) = 0:=by
 have h:∀ l:BS,blk9 (l.drop (blk9 l)) = 0:=by
  intro l
  induction l with
  | nil=>rfl
  | cons c r ih =>
   by_cases hc:c = 32
   ·rw [blk9_cons,if_pos hc,List.drop_succ_cons]; exact ih
   ·rw [blk9_cons,if_neg hc,List.drop_zero,blk9_cons,if_neg hc]
 rw [← List.drop_drop]; exact h _
theorem rblanks_l (n:Nat) (S:BS) (hS:S.length ≤ 100000000):∀ (k i:Nat),i ≤ S.length → S.length - i < k → ref09_blanks_l1 n S k (i:Int) = some ((i + blk9 (S.drop i):Nat):Int)
 | 0,i,_,h=>by omega
 | k + 1,i,h1,h2=>by
  rw [ref09_blanks_l1]
  by_cases h:i < S.length
  ·simp only [lt_i h,in_i h,at_i h,Bool.or_true,if_true,cond_true,b32]
   rw [drop_at h]
   unfold blk9
   by_cases hc:S[i] = 32
   ·rw [if_pos (decide_eq_true hc),if_pos hc,wrap_s i (by omega),rblanks_l n S hS k (i + 1) (by omega) (by omega)]
    congr 2
    omega
   ·rw [if_neg (by simpa using hc),if_neg hc]; rfl
  ·have:i = S.length:=by omega
   subst this
   simp only [nlt_n]
   rw [List.drop_eq_nil_of_le (Nat.le_refl _)]
   rfl
theorem rblanks (n:Nat) (S:BS) (i:Nat) (hS:S.length ≤ 100000000) (hn:S.length < n) (hi:i ≤ S.length):ref09_blanks n S (i:Int) = some ((i + blk9 (S.drop i):Nat):Int):=by
 unfold ref09_blanks
 rw [rblanks_l n S hS n i hi (by omega)]; rfl
theorem ris (n:Nat) (S:BS) (i:Nat) (c:Int) (hc:c ≠ 0):ref09_is n S (i:Int) c = some (decide (hd9 (S.drop i) = c)):=by
 unfold ref09_is
 by_cases h:i < S.length
 ·simp only [lt_i h,in_i h,at_i h,Bool.or_true,if_true,cond_true]
  rw [drop_at h]
  congr 1
 ·have hle:S.length ≤ i:=by omega
  rw [nlt_i hle,List.drop_eq_nil_of_le hle]
  show some false = some (decide ((0:Int) = c))
  rw [decide_eq_false (fun e=>hc e.symm)]
theorem rmark:∀ c:UInt8,ref09_mark (c.toNat:Int) = sp5.contains c:=byte_all (by decide +kernel)
theorem sp6_eq:∀ c:UInt8,sp6.contains c = (decide (c = 32) || sp5.contains c):=byte_all (by decide +kernel)
theorem rplain_l (n:Nat) (S:BS) (hS:S.length ≤ 100000000):∀ (k i:Nat),i ≤ S.length → S.length - i < k → ∃ r,ref09_plain_l1 n S k (i:Int) = some r ∧ Sum.elim (fun o=>o) (fun o=>o) r = ((i + pl9 (S.drop i):Nat):Int)
 | 0,i,_,h=>by omega
 | k + 1,i,h1,h2=>by
  rw [ref09_plain_l1]
  by_cases h:i < S.length
  ·rw [drop_at h]
   unfold pl9
   rw [lt_i h,in_i h,at_i h,if_pos rfl,if_pos rfl,rmark,wrap_s i (by omega)]
   by_cases hm:sp5.contains S[i] = true
   ·rw [if_pos hm,hm]
    exact ⟨_,rfl,rfl⟩
   ·have hm':sp5.contains S[i] = false:=by simpa using hm
    rw [if_neg hm,if_pos rfl,hm',b58]
    have hnext:∃ r,ref09_plain_l1 n S k ((i + 1:Nat):Int) = some r ∧ Sum.elim (fun o=>o) (fun o=>o) r = ((i + (pl9 (S.drop (i + 1)) + 1):Nat):Int):=by
     obtain ⟨r,g1,g2⟩:=rplain_l n S hS k (i + 1) (by omega) (by omega)
     refine ⟨r,g1,?_⟩
     rw [g2]; congr 1; omega
    by_cases hx:i + 1 < S.length
    ·have e0:(((i + 1:Nat):Int) == (S.length:Int)) = false:=by rw [eq_i]; exact decide_eq_false (by omega)
     rw [e0,in_i hx,at_i hx,b32,Bool.or_true,if_pos rfl,Bool.or_true,if_pos rfl,rmark,drop_at hx]
     simp only [lett,cond_false]
     have e1:(bif decide (S[i] = 58) then bif decide (S[i + 1] = 32) then true else sp5.contains S[i + 1] else false) = (S[i] == 58 && sp6.contains S[i + 1]):=by
      rw [sp6_eq,byte_eq]
      cases (S[i] == 58) <;> cases decide (S[i + 1] = 32) <;> rfl
     simp only [e1,Bool.false_or]
     by_cases hc:(S[i] == 58 && sp6.contains S[i + 1]) = true
     ·rw [if_pos hc,if_pos hc]; exact ⟨_,rfl,rfl⟩
     ·rw [if_neg hc,if_neg hc]
      rw [drop_at hx] at hnext
      exact hnext
    ·have he:i + 1 = S.length:=by omega
     have e0:(((i + 1:Nat):Int) == (S.length:Int)) = true:=by rw [eq_i]; exact decide_eq_true he
     have hd:S.drop (i + 1) = []:=List.drop_eq_nil_of_le (by omega)
     rw [e0,hd]
     rw [hd] at hnext
     simp only [lett,cond_true,Bool.false_or,Bool.and_true,byte_eq]
     rw [if_pos (by rfl),if_pos (by rfl)]
     by_cases hc:(S[i] == 58) = true
     ·rw [hc]; exact ⟨_,rfl,rfl⟩
     ·have hc':(S[i] == 58) = false:=by simpa using hc
      rw [hc']; exact hnext
  ·have:i = S.length:=by omega
   subst this
   rw [nlt_n,List.drop_eq_nil_of_le (Nat.le_refl _)]
   exact ⟨_,rfl,rfl⟩
theorem rplain (n:Nat) (S:BS) (i:Nat) (hS:S.length ≤ 100000000) (hn:S.length < n) (hi:i ≤ S.length):ref09_plain n S (i:Int) = some ((i + pl9 (S.drop i):Nat):Int):=by
 obtain ⟨r,h1,h2⟩:=rplain_l n S hS n i hi (by omega)
 unfold ref09_plain
 rw [h1,Option.bind_some,← h2]
 cases r <;> rfl
theorem trimB_snoc (l:BS) (c:UInt8):Lib.trimRightB (l ++ [c]) 32 = if c = 32 then Lib.trimRightB l 32 else l ++ [c]:=by
 unfold Lib.trimRightB
 rw [List.reverse_append]
 show (List.dropWhile _ (c :: l.reverse)).reverse = _
 rw [List.dropWhile_cons]
 by_cases h:c = 32
 ·subst h; simp
 ·simp [h]
theorem trimB_ne {c:UInt8} {l:BS} (hc:c ≠ 32):Lib.trimRightB (c :: l) 32 ≠ []:=by
 suffices h:∀ (m:Nat) (l:BS),l.length = m → Lib.trimRightB (c :: l) 32 ≠ [] from h _ l rfl
 intro m
 induction m with
 | zero =>
  intro l hl
  rw [List.length_eq_zero_iff.1 hl]
  have:=trimB_snoc [] c
  rw [List.nil_append,if_neg hc] at this
  rw [this]; simp
 | succ m ih =>
  intro l hl
  rcases List.eq_nil_or_concat l with rfl | ⟨l',d,rfl⟩
  ·simp at hl
  ·rw [List.concat_eq_append] at hl ⊢
   rw [← List.cons_append,trimB_snoc]
   by_cases hd:d = 32
   ·rw [if_pos hd]; exact ih l' (by simpa using hl)
   ·rw [if_neg hd]; simp
theorem rtrim_l (n:Nat):∀ (k:Nat) (s:BS),s.length < k → s.length ≤ 100000 → ref09_trimmed_l1 n k s = some (Lib.trimRightB s 32)
 | 0,s,h,_=>by omega
 | k + 1,s,h,hs=>by
  rw [ref09_trimmed_l1]
  rcases List.eq_nil_or_concat s with rfl | ⟨l,c,rfl⟩
  ·rfl
  ·rw [List.concat_eq_append] at h hs ⊢
   have hl:(l ++ [c]).length = l.length + 1:=by simp
   have hw:IntKind.wrap .i64 (((l ++ [c]).length:Int) - 1) = (l.length:Int):=by
    rw [hl,wrap_p _ (by omega) (by omega)]; rfl
   have hp:decide (((l ++ [c]).length:Int) > 0) = true:=decide_eq_true (by omega)
   have hat:((l ++ [c])[Int.toNat (l.length:Int)]?.getD 0) = c:=by rw [tn]; simp
   rw [hw,hp,hat,b32,if_pos (by rw [in_i (by omega:l.length < (l ++ [c]).length),Bool.or_true]),trimB_snoc]
   simp only [lett,cond_true]
   by_cases hc:c = 32
   ·rw [if_pos (decide_eq_true hc),if_pos (le_i (by omega)),if_pos hc,tn,List.take_left]
    exact rtrim_l n k l (by omega) (by omega)
   ·rw [if_neg (by simpa using hc),if_neg hc]
theorem rtrim (n:Nat) (s:BS) (hs:s.length ≤ 100000) (hn:s.length < n):ref09_trimmed n s = some (Lib.trimRightB s 32):=by
 unfold ref09_trimmed
 rw [rtrim_l n n s hn hs]; rfl
theorem plain_quote {s:BS} (h:0 < s.length) (hc:s[0] = 34 ∨ s[0] = 39):plainB s = false ∧ rowB s = false:=by
 have hp:plainB s = false:=by
  unfold plainB
  rw [dif_pos h]
  have:sp18.contains s[0] = true:=by rcases hc with hc | hc <;> rw [hc] <;> rfl
  rw [this]
  simp
 exact ⟨hp,by unfold rowB; rw [hp,Bool.and_false]⟩
theorem scan_shut (n:Nat) (s:BS) (hc:∀ h:0 < s.length,¬ (s[0] = 34 ∨ s[0] = 39)):quote_Scan n s 0 = some ([],0,2):=by
 unfold quote_Scan
 cases s with
 | nil=>rfl
 | cons c t =>
  have hc:=hc (by simp)
  have hc:¬ (c = 34 ∨ c = 39):=hc
  have z1:((c :: t)[Int.toNat 0]?.getD 0) = c:=rfl
  have n34:((c.toNat:Int) != 34) = true:=by
   have:((c.toNat:Int) == 34) = false:=by rw [b34]; exact decide_eq_false fun e=>hc (.inl e)
   show (!((c.toNat:Int) == 34)) = true
   rw [this]; rfl
  have n39:((c.toNat:Int) != 39) = true:=by
   have:((c.toNat:Int) == 39) = false:=by rw [b39]; exact decide_eq_false fun e=>hc (.inr e)
   show (!((c.toNat:Int) == 39)) = true
   rw [this]; rfl
  have z0:decide (0 ≤ (0:Int) ∧ (0:Int) < (List.length (c :: t):Int)) = true:=in_i (l:=c :: t) (i:=0) (by simp)
  rw [z1,n34,n39,z0,Bool.or_true,if_pos rfl,Bool.or_true,if_pos rfl]
  simp only [lett]
  cases (bif decide ((0:Int) < 0) then true else decide ((0:Int) ≥ (List.length (c :: t):Int))) <;> rfl
theorem scalar_ref (n:Nat) (s:BS) (row:Bool) (hs:s.length ≤ 10000) (hn:200000 ≤ n):∃ x e ok,flow_Scalar n s row = some (x,e) ∧ ref09_Scalar n s row = some ((if ok = true then x else Z8),ok) ∧ e = (if ok = true then 0 else 3) ∧ (ok = false → x = Z8) ∧ Red s.length x:=by
 unfold flow_Scalar ref09_Scalar
 by_cases hw:s = [] ∨ s = [126] ∨ s = [110,117,108,108]
 ·refine ⟨Z8,0,true,?_,?_,rfl,fun h=>(by cases h),Red.null⟩
  ·rcases hw with rfl | rfl | rfl <;> rfl
  ·rcases hw with rfl | rfl | rfl <;> rfl
 ·have hne:s ≠ []:=fun e=>hw (.inl e)
  have hlen:0 < s.length:=List.length_pos_iff.2 hne
  have e1:(s == []) = false:=by simpa using hne
  have e2:(s == [126]) = false:=by simp; exact fun e=>hw (.inr (.inl e))
  have e3:(s == [110,117,108,108]) = false:=by simp; exact fun e=>hw (.inr (.inr e))
  have z0:decide (0 ≤ (0:Int) ∧ (0:Int) < (List.length s:Int)) = true:=in_i hlen
  have z1:(s[Int.toNat 0]?.getD 0) = s[0]:=at_i hlen
  obtain ⟨r1,r2⟩:=row_eq n s (by omega) hn
  obtain ⟨p1,p2⟩:=plain_eq n s (by omega) hn
  obtain ⟨r,q1,q2,_⟩:=scan_eq n s 0 hs (by omega) (by decide)
  rw [e1,e2,e3,z0,z1,b34,b39,q2]
  simp only [Bool.or_true,if_true,cond_false,Bool.false_eq_true,if_false,Option.bind_some]
  have hcond:(if (row == true) = true then ref06_Row n s else some false) = some (row && rowB s):=by
   cases row
   ·rfl
   ·exact r2
  have hcond':(if (row == true) = true then quote_Row n s else some false) = some (row && rowB s):=by
   cases row
   ·rfl
   ·exact r1
  have hcp:(if (((!row) == true) && ((bif row then (row && rowB s) else false) == false)) = true then ref06_Plain n s else some false) = some (!row && plainB s):=by
   cases row
   ·exact p2
   ·rfl
  have hcp':(if (((!row) == true) && ((bif row then (row && rowB s) else false) == false)) = true then quote_Plain n s else some false) = some (!row && plainB s):=by
   cases row
   ·exact p1
   ·rfl
  have hfin:(bif (bif row then (row && rowB s) else false) then true else (bif (!row) then (!row && plainB s) else false)) = (if row = true then rowB s else plainB s):=by
   cases row
   ·show (bif false then true else (bif true then (true && plainB s) else false)) = _
    cases plainB s <;> rfl
   ·show (bif (true && rowB s) then true else (bif false then (false && plainB s) else false)) = _
    cases rowB s <;> rfl
  rw [hcond,hcond']
  simp only [Option.bind_some]
  rw [hcp,hcp']
  simp only [Option.bind_some]
  rw [hfin]
  by_cases hq:(bif decide (s[0] = 34) then true else decide (s[0] = 39)) = true
  ·have hq':s[0] = 34 ∨ s[0] = 39:=by
    by_cases h4:s[0] = 34
    ·exact .inl h4
    ·rw [decide_eq_false h4] at hq
     exact .inr (of_decide_eq_true hq)
   rw [if_pos hq,q1,Option.bind_some]
   obtain ⟨f1,f2⟩:=plain_quote hlen hq'
   have hz:((if row = true then rowB s else plainB s)) = false:=by rw [f1,f2,ite_self]
   have hlenr:r.2.2 = 0 → r.1.length ≤ s.length:=fun h0=>by
    rcases Scan_tot n s 0 (by omega) (by omega) hlen hq' with g1 | ⟨t,j,g1,_,_,g4⟩
    ·have g1:quote_Scan n s 0 = some ([],0,3):=g1
     rw [q1] at g1; cases g1; simp
    ·have g1:quote_Scan n s 0 = some (t,(j:Int),0):=g1
     rw [q1] at g1; cases g1; exact g4
   rw [hz,if_neg Bool.false_ne_true]
   obtain ⟨rt,rj,re⟩:=r
   simp only at hlenr ⊢
   by_cases h0:re = 0
   ·subst h0
    by_cases hj:rj = (s.length:Int)
    ·refine ⟨S_api_Node.mk 1 rt [] [],0,true,?_,?_,rfl,fun h=>(by cases h),Red.leaf (hlenr rfl)⟩
     ·rw [if_neg (by rw [hj]; simp)]; rfl
     ·rw [if_pos (by rw [hj]; simp)]; rfl
    ·refine ⟨Z8,3,false,?_,?_,rfl,fun _=>rfl,Red.null⟩
     ·rw [if_pos (by simpa using hj)]
     ·rw [if_neg (by simpa using hj)]; rfl
   ·have ha:(re != 0) = true:=by simpa using h0
    have hb:(re == 0) = false:=by simpa using h0
    refine ⟨Z8,3,false,?_,?_,rfl,fun _=>rfl,Red.null⟩
    ·rw [ha]; rfl
    ·rw [hb]; rfl
  ·have hq':∀ h:0 < s.length,¬ (s[0] = 34 ∨ s[0] = 39):=fun _ h=>by
    rcases h with h | h <;> rw [h] at hq <;> exact hq rfl
   have hsc:=scan_shut n s hq'
   rw [q1] at hsc
   cases hsc
   have hz2:(bif ((2:Int) == 0) then ((0:Int) == (List.length s:Int)) else false) = false:=rfl
   simp only
   rw [hz2,if_neg hq,if_neg Bool.false_ne_true]
   cases (if row = true then rowB s else plainB s) with
   | true=>exact ⟨S_api_Node.mk 1 s [] [],0,true,rfl,rfl,rfl,fun h=>(by cases h),Red.leaf (Nat.le_refl _)⟩
   | false=>exact ⟨Z8,3,false,rfl,rfl,rfl,fun _=>rfl,Red.null⟩
def Agr {α:Type} (S:BS) (i:Nat) (v:α) (j:Nat) (bad:Bool) (w:α) (e:Int):Prop:=(i ≤ j ∧ j ≤ S.length) ∧ ((bad = true ∧ e = -1) ∨ (bad = false ∧ e = (j:Int) ∧ w = v))
theorem pl9_end:∀ l:BS,blk9 (l.drop (pl9 l)) = 0
 | []=>rfl
 | c :: r=>by
  unfold pl9
  by_cases h:(sp5.contains c || (c == 58 && (match r with | []=>true | d :: _=>sp6.contains d))) = true
  ·rw [if_pos h,List.drop_zero]
   unfold blk9
   have:c ≠ 32:=by
    rintro rfl
    revert h
    show ¬ (false || (false && _)) = true
    simp
   rw [if_neg this]
  ·rw [if_neg h,List.drop_succ_cons]
   exact pl9_end r
theorem quoted_at {S:BS} {j:Nat}:(bif (hd9 (S.drop j) == 34) then true else (hd9 (S.drop j) == 39)) = true ↔ ∃ h:j < S.length,S[j] = 34 ∨ S[j] = 39:=by
 constructor
 ·intro hq
  have hjl:j < S.length:=by
   rcases Nat.lt_or_ge j S.length with h1 | h1
   ·exact h1
   ·rw [List.drop_eq_nil_of_le h1] at hq; exact absurd hq (by decide)
  have a1:(hd9 (S.drop j) == 34) = decide (S[j] = 34):=hd_byte (c:=34) hjl
  have a2:(hd9 (S.drop j) == 39) = decide (S[j] = 39):=hd_byte (c:=39) hjl
  rw [a1,a2] at hq
  refine ⟨hjl,?_⟩
  by_cases h4:S[j] = 34
  ·exact .inl h4
  ·rw [decide_eq_false h4] at hq
   exact .inr (of_decide_eq_true hq)
 ·rintro ⟨hjl,h⟩
  have a1:(hd9 (S.drop j) == 34) = decide (S[j] = 34):=hd_byte (c:=34) hjl
  have a2:(hd9 (S.drop j) == 39) = decide (S[j] = 39):=hd_byte (c:=39) hjl
  rw [a1,a2]
  rcases h with h | h <;> rw [h] <;> decide
theorem scan_both (n:Nat) (S:BS) (j:Nat) (hS:S.length ≤ 10000) (hn:20000 ≤ n) (hj:j < S.length) (hq:S[j] = 34 ∨ S[j] = 39):∃ t e,quote_Scan n S (j:Int) = some (t,e) ∧ ref06_Scan n S (j:Int) = some (t,e) ∧ ((e.2 ≠ 0 ∧ t = []) ∨ (e.2 = 0 ∧ t.length ≤ S.length ∧ ∃ m:Nat,e.1 = (m:Int) ∧ j < m ∧ m ≤ S.length)):=by
 obtain ⟨r,q1,q2,_⟩:=scan_eq n S (j:Int) hS hn ⟨Int.le_trans (by decide) (Int.natCast_nonneg _),by show (j:Int) ≤ 9223372036854775807; omega⟩
 rcases Scan_tot n S j (by omega) (by omega) hj hq with g1 | ⟨t,m,g1,g2,g3,g4⟩
 ·rw [q1] at g1; cases g1
  exact ⟨[],(0,3),q1,q2,.inl ⟨by decide,rfl⟩⟩
 ·rw [q1] at g1; cases g1
  exact ⟨t,((m:Int),0),q1,q2,.inr ⟨rfl,g4,m,rfl,g2,g3⟩⟩
theorem key_ref (n:Nat) (S:BS) (i i':Nat) (hS:S.length ≤ 10000) (hn:300000 ≤ n) (hi:i ≤ S.length) (hi':i' ≤ S.length) (hb':i' + blk9 (S.drop i') = i + blk9 (S.drop i)) :
  ∃ k j bad k' e,flow_reader_key__o0 n (S_flow_reader.mk S (i:Int) false) = some (k,S_flow_reader.mk S ((j:Nat):Int) bad) ∧ ref09_key n S (i':Int) = some (k',e) ∧ Agr S i k j bad k' e ∧ k.length ≤ S.length ∧ (bad = false → i < j):=by
 have hb:=blk9_drop S i hi
 unfold flow_reader_key__o0 ref09_key
 rw [next_eq n S false i (by omega) (by omega) hi,rblanks n S i' (by omega) (by omega) hi',hb',Option.bind_some,Option.bind_some]
 simp only
 generalize hj:i + blk9 (S.drop i) = j at hb ⊢
 have hij:i ≤ j:=by omega
 rw [ris n S j 34 (by decide),Option.bind_some]
 have hor:((if (decide (hd9 (S.drop j) = 34) == false) = true then ref09_is n S (j:Int) 39 else some false)) = some (!decide (hd9 (S.drop j) = 34) && decide (hd9 (S.drop j) = 39)):=by
  rw [ris n S j 39 (by decide)]
  cases decide (hd9 (S.drop j) = 34) <;> rfl
 rw [hor,Option.bind_some]
 have hcq:(bif decide (hd9 (S.drop j) = 34) then true else (!decide (hd9 (S.drop j) = 34) && decide (hd9 (S.drop j) = 39))) = (bif (hd9 (S.drop j) == 34) then true else (hd9 (S.drop j) == 39)):=by
  have e1:(hd9 (S.drop j) == 34) = decide (hd9 (S.drop j) = 34):=by rw [Bool.eq_iff_iff,beq_iff_eq,decide_eq_true_eq]
  have e2:(hd9 (S.drop j) == 39) = decide (hd9 (S.drop j) = 39):=by rw [Bool.eq_iff_iff,beq_iff_eq,decide_eq_true_eq]
  rw [e1,e2]
  cases decide (hd9 (S.drop j) = 34) <;> rfl
 rw [hcq]
 unfold flow_reader_key__o0_j1
 by_cases hq:(bif (hd9 (S.drop j) == 34) then true else (hd9 (S.drop j) == 39)) = true
 ·rw [if_pos hq,if_pos hq]
  obtain ⟨hjl,hq⟩:=quoted_at.1 hq
  obtain ⟨t,e,s1,s2,s3⟩:=scan_both n S j hS (by omega) hjl hq
  unfold flow_reader_quoted__o0
  simp only
  rw [s1,s2,Option.bind_some,Option.bind_some]
  obtain ⟨e1,e2⟩:=e
  simp only at s3 ⊢
  rcases s3 with ⟨h0,rfl⟩ | ⟨h0,hl,m,rfl,hm1,hm2⟩
  ·have h0:(e2 != 0) = true:=by simpa using h0
   rw [h0,if_pos rfl,if_pos rfl]
   exact ⟨[],j,true,[],-1,rfl,rfl,⟨⟨hij,hb⟩,.inl ⟨rfl,rfl⟩⟩,Nat.zero_le _,fun h=>(by cases h)⟩
  ·subst h0
   have h00:((0:Int) != 0) = false:=rfl
   have hmb:=blk9_drop S m hm2
   rw [h00,if_neg Bool.false_ne_true,if_neg Bool.false_ne_true]
   simp only [Option.bind_some]
   rw [if_pos (by rfl),take_eq n S false m 58 (by omega) (by omega) hm2,rblanks n S m (by omega) (by omega) hm2]
   simp only [Option.bind_some]
   rw [ris n S _ 58 (by decide)]
   simp only [Option.bind_some]
   by_cases c:hd9 (S.drop (m + blk9 (S.drop m))) = 58
   ·have hlt:=hd_in c (by decide)
    rw [if_pos c,if_neg (by rw [decide_eq_true c]; decide),wrap_s _ (by omega)]
    exact ⟨t,m + blk9 (S.drop m) + 1,false,t,_,rfl,rfl,⟨⟨by omega,by omega⟩,.inr ⟨rfl,rfl,rfl⟩⟩,hl,fun _=>(by omega)⟩
   ·rw [if_neg c,if_pos (by rw [decide_eq_false c]; rfl)]
    exact ⟨t,m + blk9 (S.drop m),true,[],-1,rfl,rfl,⟨⟨by omega,by omega⟩,.inl ⟨rfl,rfl⟩⟩,hl,fun h=>(by cases h)⟩
 ·rw [if_neg hq,if_neg hq,plain_read n S false j (by omega) (by omega) hb,rplain n S j (by omega) (by omega) hb]
  have hp:=pl9_le (S.drop j)
  rw [List.length_drop] at hp
  have ht:=trim_le ((S.drop j).take (pl9 (S.drop j))) 32
  rw [List.length_take,List.length_drop] at ht
  simp only [Option.bind_some]
  rw [if_pos (le_i (by omega)),if_pos (le_ij (by omega)),tn,tn,show j + pl9 (S.drop j) - j = pl9 (S.drop j) by omega,rtrim n _ (by rw [List.length_take,List.length_drop]; omega) (by rw [List.length_take,List.length_drop]; omega)]
  obtain ⟨r1,r2⟩:=row_eq n (Lib.trimRightB ((S.drop j).take (pl9 (S.drop j))) 32) (by omega) (by omega)
  simp only [Option.bind_some]
  rw [r1,r2]
  simp only [Option.bind_some]
  have hpe:j + pl9 (S.drop j) + blk9 (S.drop (j + pl9 (S.drop j))) = j + pl9 (S.drop j):=by
   rw [← List.drop_drop,pl9_end]; rfl
  cases hr:rowB (Lib.trimRightB ((S.drop j).take (pl9 (S.drop j))) 32) with
  | false =>
   exact ⟨_,_,true,[],-1,rfl,rfl,⟨⟨by omega,by omega⟩,.inl ⟨rfl,rfl⟩⟩,(by simp only; omega),fun h=>(by cases h)⟩
  | true =>
   rw [if_neg (by decide),ris n S _ 58 (by decide),if_pos (by rfl)]
   simp only [Option.bind_some]
   rw [if_pos (by rfl),take_eq n S false _ 58 (by omega) (by omega) (by omega),hpe]
   simp only [Option.bind_some]
   by_cases c:hd9 (S.drop (j + pl9 (S.drop j))) = 58
   ·have hlt:=hd_in c (by decide)
    rw [if_pos c,if_neg (by rw [decide_eq_true c]; decide),wrap_s _ (by omega)]
    exact ⟨_,_,false,_,_,rfl,rfl,⟨⟨by omega,by omega⟩,.inr ⟨rfl,rfl,rfl⟩⟩,by omega,fun _=>(by omega)⟩
   ·rw [if_neg c,if_pos (by rw [decide_eq_false c]; rfl)]
    exact ⟨_,_,true,[],-1,rfl,rfl,⟨⟨by omega,by omega⟩,.inl ⟨rfl,rfl⟩⟩,by omega,fun h=>(by cases h)⟩
def ValR (S:BS) (R:Rv) (Q:BS → Int → Option (Nd × Int)) (i i':Nat):Prop :=
 ∃ v sm j bad w e,R (S_flow_reader.mk S (i:Int) false) = some (v,sm,S_flow_reader.mk S ((j:Nat):Int) bad) ∧ Q S (i':Int) = some (w,e) ∧ Agr S i v j bad w e ∧ (bad = false → i + blk9 (S.drop i) ≤ j ∧ sm = decide (i + blk9 (S.drop i) < j))
theorem take_y (n:Nat) (S:BS) (i p:Nat) (c:Int) (hS:S.length ≤ 100000000) (hn:S.length < n) (hi:i ≤ S.length) (hp:i + blk9 (S.drop i) = p) (h:hd9 (S.drop p) = c):flow_reader_take__o0 n c (S_flow_reader.mk S (i:Int) false) = some (true,S_flow_reader.mk S ((p + 1:Nat):Int) false):=by
 rw [take_eq n S false i c hS hn hi,hp,if_pos h]
theorem take_n (n:Nat) (S:BS) (i p:Nat) (c:Int) (hS:S.length ≤ 100000000) (hn:S.length < n) (hi:i ≤ S.length) (hp:i + blk9 (S.drop i) = p) (h:¬ hd9 (S.drop p) = c):flow_reader_take__o0 n c (S_flow_reader.mk S (i:Int) false) = some (false,S_flow_reader.mk S (p:Int) false):=by
 rw [take_eq n S false i c hS hn hi,hp,if_neg h]
theorem ris_y (n:Nat) (S:BS) (i:Nat) (c:Int) (hc:c ≠ 0) (h:hd9 (S.drop i) = c):ref09_is n S (i:Int) c = some true:=by rw [ris n S i c hc,decide_eq_true h]
theorem ris_n (n:Nat) (S:BS) (i:Nat) (c:Int) (hc:c ≠ 0) (h:¬ hd9 (S.drop i) = c):ref09_is n S (i:Int) c = some false:=by rw [ris n S i c hc,decide_eq_false h]
theorem ne_c {S:BS} {p:Nat} {a b:Int} (h:hd9 (S.drop p) = a) (hab:a ≠ b):¬ hd9 (S.drop p) = b:=fun h'=>hab (h ▸ h')
theorem seq_ref_l (R:Rv) (Q:BS → Int → Option (Nd × Int)) (n:Nat) (S:BS) (i0:Nat) (hS:S.length ≤ 10000) (hn:300000 ≤ n)
  (hR:∀ i i',i0 < i → i ≤ S.length → i' ≤ S.length → i' + blk9 (S.drop i') = i + blk9 (S.drop i) → ValR S R Q i i') :
  ∀ (k k' i i':Nat) (z z':Nd) (xs:List Nd),i0 < i → i ≤ S.length → i' ≤ S.length → i' + blk9 (S.drop i') = i + blk9 (S.drop i) → S.length - i < k → S.length - i < k' → xs.length ≤ i →
   ∃ v j bad w e,flow_reader_seq__o0_g1_0 R n k z (S_api_Node.mk 2 [] [] xs) (S_flow_reader.mk S (i:Int) false) = some (v,S_flow_reader.mk S ((j:Nat):Int) bad) ∧ ref09_row_l1 Q n S k' (i':Int) z' (S_api_Node.mk 2 [] [] xs) = some (e,w) ∧ Agr S i v j bad w e
 | 0,_,i,_,_,_,_,_,_,_,_,h,_,_=>by omega
 | _,0,i,_,_,_,_,_,_,_,_,_,h,_=>by omega
 | k + 1,k' + 1,i,i',z,z',xs,h0,hi,hi',hbb,hk,hk',hx=>by
  have hb:=blk9_drop S i hi
  have hbn:=blk9_none hi
  generalize hm:i + blk9 (S.drop i) = m at hb hbn hbb
  obtain ⟨v,sm,j,bad,w,e,r1,r2,⟨⟨r3,r4⟩,r5⟩,r6⟩:=hR i m h0 hi hb (by rw [hbn,hm]; rfl)
  rw [flow_reader_seq__o0_g1_0,ref09_row_l1,r1,rblanks n S i' (by omega) (by omega) hi',hbb]
  simp only [Option.bind_some]
  rw [r2]
  simp only [Option.bind_some]
  rcases r5 with ⟨rfl,rfl⟩ | ⟨rfl,rfl,rfl⟩
  ·have d1:decide ((-1:Int) ≤ (m:Int)) = true:=decide_eq_true (by omega)
   rw [d1]
   simp only [cond_true,if_true]
   exact ⟨_,j,true,_,-1,rfl,rfl,⟨r3,r4⟩,.inl ⟨rfl,rfl⟩⟩
  obtain ⟨r6,r7⟩:=r6 rfl
  rw [hm] at r6 r7
  have c2:decide ((List.length xs + List.length [w]) * (72 + 1) ≤ limit) = true:=decide_eq_true (by show (xs.length + 1) * (72 + 1) ≤ 140737488355328; omega)
  by_cases hlt:m < j
  ·have d1:decide ((j:Int) ≤ (m:Int)) = false:=decide_eq_false (by omega)
   have d2:decide (m < j) = true:=decide_eq_true hlt
   rw [r7,d1,d2,c2]
   have hjb:=blk9_drop S j r4
   have hjn:=blk9_none r4
   have hjr:=rblanks n S j (by omega) (by omega) r4
   generalize hp:j + blk9 (S.drop j) = p at hjb hjn hjr
   rw [hjr]
   simp only [cond_false,Bool.not_true,Bool.false_eq_true,if_false,if_true,Option.bind_some]
   by_cases c44:hd9 (S.drop p) = 44
   ·have hpl:=hd_in c44 (by decide)
    rw [take_y n S j p 44 (by omega) (by omega) r4 hp c44,ris_n n S p 93 (by decide) (ne_c c44 (by decide)),ris_y n S p 44 (by decide) c44]
    simp only [Bool.not_true,Bool.false_eq_true,if_false,if_true,Option.bind_some]
    rw [wrap_s p (by omega)]
    obtain ⟨v2,j2,b2,w2,e2,g1,g2,⟨g3,g4⟩,g5⟩:=seq_ref_l R Q n S i0 hS hn hR k k' (p + 1) (p + 1) z z' (xs ++ [w]) (by omega) (by omega) (by omega) rfl (by omega) (by omega) (by simp; omega)
    exact ⟨v2,j2,b2,w2,e2,g1,g2,⟨by omega,g4⟩,g5⟩
   ·rw [take_n n S j p 44 (by omega) (by omega) r4 hp c44]
    simp only [Bool.false_eq_true,if_false,Option.bind_some]
    by_cases c93:hd9 (S.drop p) = 93
    ·have hpl:=hd_in c93 (by decide)
     rw [take_y n S p p 93 (by omega) (by omega) hjb (by rw [hjn]; rfl) c93,ris_y n S p 93 (by decide) c93]
     simp only [Bool.not_true,if_true,Option.bind_some]
     rw [wrap_s p (by omega)]
     exact ⟨_,p + 1,false,_,_,rfl,rfl,⟨by omega,by omega⟩,.inr ⟨rfl,rfl,rfl⟩⟩
    ·rw [take_n n S p p 93 (by omega) (by omega) hjb (by rw [hjn]; rfl) c93,ris_n n S p 93 (by decide) c93,ris_n n S p 44 (by decide) c44]
     simp only [Bool.not_false,Bool.false_eq_true,if_false,if_true,Option.bind_some]
     exact ⟨_,p,true,_,_,rfl,rfl,⟨by omega,by omega⟩,.inl ⟨rfl,rfl⟩⟩
  ·have d1:decide ((j:Int) ≤ (m:Int)) = true:=decide_eq_true (by omega)
   have d2:decide (m < j) = false:=decide_eq_false hlt
   rw [r7,d1,d2]
   simp only [cond_false,Bool.not_false,if_true]
   exact ⟨_,j,true,_,-1,rfl,rfl,⟨r3,r4⟩,.inl ⟨rfl,rfl⟩⟩
theorem seq_ref (R:Rv) (Q:BS → Int → Option (Nd × Int)) (n:Nat) (S:BS) (i:Nat) (hS:S.length ≤ 10000) (hn:300000 ≤ n) (hi:i < S.length)
  (hR:∀ i1 i',i < i1 → i1 ≤ S.length → i' ≤ S.length → i' + blk9 (S.drop i') = i1 + blk9 (S.drop i1) → ValR S R Q i1 i') :
  ∃ v j bad w e,flow_reader_seq__o0 R n (S_flow_reader.mk S (i:Int) false) = some (v,S_flow_reader.mk S ((j:Nat):Int) bad) ∧ ref09_row Q n S ((i + 1:Nat):Int) = some (w,e) ∧ Agr S (i + 1) v j bad w e:=by
 suffices hg:∃ v j bad w e,flow_reader_seq__o0_g1_e R n n (S_api_Node.mk 0 [] [] []) (S_flow_reader.mk S (i:Int) false) = some (v,S_flow_reader.mk S ((j:Nat):Int) bad) ∧ ref09_row Q n S ((i + 1:Nat):Int) = some (w,e) ∧ Agr S (i + 1) v j bad w e by
  obtain ⟨v,j,b,w,e,h1,h2⟩:=hg
  unfold flow_reader_seq__o0
  rw [h1]
  exact ⟨v,j,b,w,e,rfl,h2⟩
 obtain ⟨m,hm⟩:∃ m,n = m + 1:=⟨n - 1,by omega⟩
 rw [show flow_reader_seq__o0_g1_e R n n = flow_reader_seq__o0_g1_e R n (m + 1) by rw [← hm]]
 unfold ref09_row
 rw [flow_reader_seq__o0_g1_e]
 simp only
 have hi1:i + 1 ≤ S.length:=by omega
 have hb:=blk9_drop S (i + 1) hi1
 have hbn:=blk9_none hi1
 have hbr:=rblanks n S (i + 1) (by omega) (by omega) hi1
 generalize hp:i + 1 + blk9 (S.drop (i + 1)) = p at hb hbn hbr
 rw [wrap_s i (by omega),hbr]
 simp only [Option.bind_some]
 by_cases c93:hd9 (S.drop p) = 93
 ·have hpl:=hd_in c93 (by decide)
  rw [take_y n S (i + 1) p 93 (by omega) (by omega) hi1 hp c93,ris_y n S p 93 (by decide) c93]
  simp only [Option.bind_some,if_true]
  rw [wrap_s p (by omega)]
  exact ⟨_,p + 1,false,_,_,rfl,rfl,⟨by omega,by omega⟩,.inr ⟨rfl,rfl,rfl⟩⟩
 ·rw [take_n n S (i + 1) p 93 (by omega) (by omega) hi1 hp c93,ris_n n S p 93 (by decide) c93]
  simp only [Option.bind_some,Bool.false_eq_true,if_false]
  obtain ⟨v,j,bad,w,e,g1,g2,⟨g3,g4⟩,g5⟩:=seq_ref_l R Q n S i hS hn hR (m + 1) n p p (S_api_Node.mk 0 [] [] []) (S_api_Node.mk 0 [] [] []) [] (by omega) hb hb rfl (by omega) (by omega) (Nat.zero_le _)
  rw [flow_reader_seq__o0_g1_0] at g1
  refine ⟨v,j,bad,w,e,g1,?_,⟨by omega,g4⟩,g5⟩
  rw [g2]; rfl
theorem find_in (x:BS):∀ l:List BS,l.findSome? (fun y=>if y = x then some true else none) = if x ∈ l then some true else none
 | []=>by simp
 | y :: l=>by
  rw [List.findSome?_cons]
  by_cases e:y = x
  ·rw [if_pos e,if_pos (by rw [e]; exact List.mem_cons_self)]
  ·rw [if_neg e]
   simp only
   rw [find_in x l]
   have:(x ∈ y :: l) ↔ x ∈ l:=by rw [List.mem_cons]; exact ⟨fun h=>h.resolve_left fun e'=>e e'.symm,.inr⟩
   by_cases c:x ∈ l
   ·rw [if_pos c,if_pos (this.2 c)]
   ·rw [if_neg c,if_neg (fun h=>c (this.1 h))]
theorem rIn (n:Nat) (l:List BS) (x:BS) (hl:l.length ≤ 100000) (hn:200000 ≤ n):ref02_In n l x = some (decide (x ∈ l)):=by
 have h:=scanL (L:=fun k i=>ref02_In_l1 n l x k i) l (fun y=>if y = x then some true else none) 0 (by omega) (fun k i h _=>by
  rw [ref02_In_l1,lt_i h,if_pos rfl,in_i h,if_pos rfl,at_i h]
  by_cases c:l[i] = x
  ·rw [if_pos (by simpa using c),if_pos c]
  ·rw [if_neg (by simpa using c),if_neg c]) (fun k=>by rw [ref02_In_l1,nlt_n]; rfl) n 0 (Nat.le_refl _) (Nat.zero_le _) (by omega)
 have h:ref02_In_l1 n l x n 0 = some (outF ((l.drop 0).findSome? (fun y=>if y = x then some true else none))):=h
 unfold ref02_In
 rw [h,List.drop_zero,find_in]
 by_cases c:x ∈ l
 ·rw [if_pos c,decide_eq_true c]; rfl
 ·rw [if_neg c,decide_eq_false c]; rfl
def Had (b:List (MK × Int)) (ks:List BS):Prop:=Onc b ∧ ∀ k:BS,mlook b (.inl k) = none ↔ k ∉ ks
theorem had_step {b:List (MK × Int)} {ks:List BS} {k:BS} (h:Had b ks):(k ∉ ks → Had (mput b (.inl k) (IntKind.wrap .i64 (((mlook b (.inl k)).getD 0) + 1))) (ks ++ [k]) ∧ decide (((mlook (mput b (.inl k) (IntKind.wrap .i64 (((mlook b (.inl k)).getD 0) + 1))) (.inl k)).getD 0) > 1) = false) ∧ (k ∈ ks → decide (((mlook (mput b (.inl k) (IntKind.wrap .i64 (((mlook b (.inl k)).getD 0) + 1))) (.inl k)).getD 0) > 1) = true):=by
 obtain ⟨h1,h2⟩:=h
 obtain ⟨o1,o2⟩:=onc_step (x:=.inl k) h1
 constructor
 ·intro hk
  obtain ⟨o3,o4⟩:=o1 ((h2 k).2 hk)
  refine ⟨⟨o3,fun y=>?_⟩,by rw [o4]; decide⟩
  rw [mlook_mput,List.mem_append,List.mem_singleton]
  by_cases e:k = y
  ·subst e
   rw [if_pos rfl]
   exact ⟨fun h=>(by cases h),fun h=>(h (.inr rfl)).elim⟩
  ·rw [if_neg (fun e'=>e (Sum.inl.inj e')),h2 y]
   exact ⟨fun h h'=>h' |>.elim h fun e'=>e e'.symm,fun h h'=>h (.inl h')⟩
 ·intro hk
  rw [o2 fun e=>(h2 k).1 e hk]; decide
theorem capS1 {a:Nat} (h:a ≤ 1000000):decide ((a + 1) * (16 + 1) ≤ limit) = true:=decide_eq_true (by show (a + 1) * (16 + 1) ≤ 140737488355328; omega)
theorem capN1 {a:Nat} (h:a ≤ 1000000):decide ((a + 1) * (72 + 1) ≤ limit) = true:=decide_eq_true (by show (a + 1) * (72 + 1) ≤ 140737488355328; omega)
theorem pairs_ref_l (R:Rv) (Q:BS → Int → Option (Nd × Int)) (n:Nat) (S:BS) (i0:Nat) (hS:S.length ≤ 10000) (hn:300000 ≤ n)
  (hR:∀ i i',i0 < i → i ≤ S.length → i' ≤ S.length → i' + blk9 (S.drop i') = i + blk9 (S.drop i) → ValR S R Q i i') :
  ∀ (k k' i i':Nat) (z z':Nd) (b:List (MK × Int)) (ks:List BS) (xs:List Nd),i0 < i → i ≤ S.length → i' ≤ S.length → i' + blk9 (S.drop i') = i + blk9 (S.drop i) → S.length - i < k → S.length - i < k' → ks.length ≤ i → xs.length ≤ i → Had b ks →
   ∃ v j bad w e,flow_reader_pairs__o0_g1_0 R n k z (S_api_Node.mk 3 [] ks xs) b (S_flow_reader.mk S (i:Int) false) = some (v,S_flow_reader.mk S ((j:Nat):Int) bad) ∧ ref09_pairs_l1 Q n S k' (i':Int) z' (S_api_Node.mk 3 [] ks xs) = some (e,w) ∧ Agr S i v j bad w e
 | 0,_,i,_,_,_,_,_,_,_,_,_,_,h,_,_,_,_=>by omega
 | _,0,i,_,_,_,_,_,_,_,_,_,_,_,h,_,_,_=>by omega
 | k + 1,k' + 1,i,i',z,z',b,ks,xs,h0,hi,hi',hbb,hk,hk',hkl,hxl,hhad=>by
  obtain ⟨key,j,bad,key',e,k1,k2,⟨⟨k3,k4⟩,k5⟩,k6,k7⟩:=key_ref n S i i' hS hn hi hi' hbb
  rw [flow_reader_pairs__o0_g1_0,ref09_pairs_l1,k1,k2]
  simp only [Option.bind_some,lett]
  obtain ⟨o1,o2⟩:=had_step (k:=key) hhad
  rcases k5 with ⟨rfl,rfl⟩ | ⟨rfl,rfl,rfl⟩
  ·have d1:decide ((-1:Int) < 0) = true:=rfl
   rw [d1,if_pos (by rfl),if_neg (by decide)]
   simp only [Option.bind_some]
   rw [if_pos (by rfl)]
   exact ⟨_,j,true,_,-1,rfl,rfl,⟨k3,k4⟩,.inl ⟨rfl,rfl⟩⟩
  have hlt:=k7 rfl
  have hneg:decide ((j:Int) < 0) = false:=decide_eq_false (by omega)
  rw [hneg,if_pos (by rfl:((false:Bool) == false) = true),rIn n ks key' (by omega) (by omega)]
  simp only [Option.bind_some,cond_false]
  by_cases hm:key' ∈ ks
  ·rw [o2 hm,decide_eq_true hm,if_pos rfl,if_pos rfl]
   exact ⟨_,j,true,_,-1,rfl,rfl,⟨k3,k4⟩,.inl ⟨rfl,rfl⟩⟩
  obtain ⟨o3,o4⟩:=o1 hm
  rw [o4,decide_eq_false hm,if_neg Bool.false_ne_true,if_neg Bool.false_ne_true]
  obtain ⟨v,sm,j2,bad2,w,e2,r1,r2,⟨⟨r3,r4⟩,r5⟩,_⟩:=hR j j (by omega) k4 k4 rfl
  rw [r1,r2]
  simp only [Option.bind_some]
  have c1:decide ((List.length ks + List.length [key']) * (16 + 1) ≤ limit) = true:=capS1 (by omega)
  have c2:∀ u:Nd,decide ((List.length xs + List.length [u]) * (72 + 1) ≤ limit) = true:=fun u=>capN1 (by omega)
  rw [if_pos c1,if_pos (c2 v)]
  rcases r5 with ⟨rfl,rfl⟩ | ⟨rfl,rfl,rfl⟩
  ·have d1:decide ((-1:Int) < 0) = true:=rfl
   rw [d1]
   simp only [if_true]
   exact ⟨_,j2,true,_,-1,rfl,rfl,⟨by omega,r4⟩,.inl ⟨rfl,rfl⟩⟩
  have hneg2:decide ((j2:Int) < 0) = false:=decide_eq_false (by omega)
  have hjb:=blk9_drop S j2 r4
  have hjn:=blk9_none r4
  have hjr:=rblanks n S j2 (by omega) (by omega) r4
  generalize hp:j2 + blk9 (S.drop j2) = p at hjb hjn hjr
  rw [hneg2,c1,c2 w,hjr]
  simp only [Bool.false_eq_true,if_false,if_true,Option.bind_some]
  by_cases c44:hd9 (S.drop p) = 44
  ·have hpl:=hd_in c44 (by decide)
   rw [take_y n S j2 p 44 (by omega) (by omega) r4 hp c44,ris_n n S p 125 (by decide) (ne_c c44 (by decide)),ris_y n S p 44 (by decide) c44]
   simp only [Bool.not_true,Bool.false_eq_true,if_false,if_true,Option.bind_some]
   rw [wrap_s p (by omega)]
   obtain ⟨v2,j3,b2,w2,e3,g1,g2,⟨g3,g4⟩,g5⟩:=pairs_ref_l R Q n S i0 hS hn hR k k' (p + 1) (p + 1) z z' _ (ks ++ [key']) (xs ++ [w]) (by omega) (by omega) (by omega) rfl (by omega) (by omega) (by simp; omega) (by simp; omega) o3
   exact ⟨v2,j3,b2,w2,e3,g1,g2,⟨by omega,g4⟩,g5⟩
  ·rw [take_n n S j2 p 44 (by omega) (by omega) r4 hp c44]
   simp only [Bool.false_eq_true,if_false,Option.bind_some]
   by_cases c125:hd9 (S.drop p) = 125
   ·have hpl:=hd_in c125 (by decide)
    rw [take_y n S p p 125 (by omega) (by omega) hjb (by rw [hjn]; rfl) c125,ris_y n S p 125 (by decide) c125]
    simp only [Bool.not_true,if_true,Option.bind_some]
    rw [wrap_s p (by omega)]
    exact ⟨_,p + 1,false,_,_,rfl,rfl,⟨by omega,by omega⟩,.inr ⟨rfl,rfl,rfl⟩⟩
   ·rw [take_n n S p p 125 (by omega) (by omega) hjb (by rw [hjn]; rfl) c125,ris_n n S p 125 (by decide) c125,ris_n n S p 44 (by decide) c44]
    simp only [Bool.not_false,Bool.false_eq_true,if_false,if_true,Option.bind_some]
    exact ⟨_,p,true,_,_,rfl,rfl,⟨by omega,by omega⟩,.inl ⟨rfl,rfl⟩⟩
theorem pairs_ref (R:Rv) (Q:BS → Int → Option (Nd × Int)) (n:Nat) (S:BS) (i:Nat) (hS:S.length ≤ 10000) (hn:300000 ≤ n) (hi:i < S.length)
  (hR:∀ i1 i',i < i1 → i1 ≤ S.length → i' ≤ S.length → i' + blk9 (S.drop i') = i1 + blk9 (S.drop i1) → ValR S R Q i1 i') :
  ∃ v j bad w e,flow_reader_pairs__o0 R n (S_flow_reader.mk S (i:Int) false) = some (v,S_flow_reader.mk S ((j:Nat):Int) bad) ∧ ref09_pairs Q n S ((i + 1:Nat):Int) = some (w,e) ∧ Agr S (i + 1) v j bad w e:=by
 suffices hg:∃ v j bad w e,flow_reader_pairs__o0_g1_e R n n (S_api_Node.mk 0 [] [] []) (S_flow_reader.mk S (i:Int) false) = some (v,S_flow_reader.mk S ((j:Nat):Int) bad) ∧ ref09_pairs Q n S ((i + 1:Nat):Int) = some (w,e) ∧ Agr S (i + 1) v j bad w e by
  obtain ⟨v,j,b,w,e,h1,h2⟩:=hg
  unfold flow_reader_pairs__o0
  rw [h1]
  exact ⟨v,j,b,w,e,rfl,h2⟩
 obtain ⟨m,hm⟩:∃ m,n = m + 1:=⟨n - 1,by omega⟩
 rw [show flow_reader_pairs__o0_g1_e R n n = flow_reader_pairs__o0_g1_e R n (m + 1) by rw [← hm]]
 unfold ref09_pairs
 rw [flow_reader_pairs__o0_g1_e]
 simp only
 have hi1:i + 1 ≤ S.length:=by omega
 have hb:=blk9_drop S (i + 1) hi1
 have hbr:=rblanks n S (i + 1) (by omega) (by omega) hi1
 generalize hp:i + 1 + blk9 (S.drop (i + 1)) = p at hb hbr
 rw [wrap_s i (by omega),hbr]
 simp only [Option.bind_some]
 by_cases c125:hd9 (S.drop p) = 125
 ·have hpl:=hd_in c125 (by decide)
  rw [take_y n S (i + 1) p 125 (by omega) (by omega) hi1 hp c125,ris_y n S p 125 (by decide) c125]
  simp only [Option.bind_some,if_true]
  rw [wrap_s p (by omega)]
  exact ⟨_,p + 1,false,_,_,rfl,rfl,⟨by omega,by omega⟩,.inr ⟨rfl,rfl,rfl⟩⟩
 ·rw [take_n n S (i + 1) p 125 (by omega) (by omega) hi1 hp c125,ris_n n S p 125 (by decide) c125]
  simp only [Option.bind_some,Bool.false_eq_true,if_false]
  obtain ⟨v,j,bad,w,e,g1,g2,⟨g3,g4⟩,g5⟩:=pairs_ref_l R Q n S i hS hn hR (m + 1) n p p (S_api_Node.mk 0 [] [] []) (S_api_Node.mk 0 [] [] []) [] [] [] (by omega) hb hb rfl (by omega) (by omega) (Nat.zero_le _) (Nat.zero_le _) ⟨fun x=>.inl rfl,fun k=>⟨fun _ h=>(by cases h),fun _=>rfl⟩⟩
  rw [flow_reader_pairs__o0_g1_0] at g1
  refine ⟨v,j,bad,w,e,g1,?_,⟨by omega,g4⟩,g5⟩
  rw [g2]; rfl
theorem value_ref (S:BS) (hS:S.length ≤ 10000):∀ (q n i i':Nat),i ≤ S.length → i' ≤ S.length → i' + blk9 (S.drop i') = i + blk9 (S.drop i) → S.length - i < q → 300000 + q < n → ValR S (flow_reader_value__o0 n) (ref09_value n) i i'
 | 0,_,_,_,_,_,_,h,_=>by omega
 | q + 1,0,_,_,_,_,_,_,h=>by omega
 | q + 1,n + 1,i,i',hi,hi',hbb,hq,hn=>by
  show ∃ v sm j bad w e,flow_reader_value__o0_b (flow_reader_value__o0 n) n (S_flow_reader.mk S (i:Int) false) = some (v,sm,S_flow_reader.mk S ((j:Nat):Int) bad) ∧ ref09_value_b (ref09_value n) n S (i':Int) = some (w,e) ∧ _
  have hb:=blk9_drop S i hi
  have hR:∀ i1 i2,i < i1 → i1 ≤ S.length → i2 ≤ S.length → i2 + blk9 (S.drop i2) = i1 + blk9 (S.drop i1) → ValR S (flow_reader_value__o0 n) (ref09_value n) i1 i2 :=
   fun i1 i2 h1 h2 h3 h4=>value_ref S hS q n i1 i2 h2 h3 h4 (by omega) (by omega)
  unfold flow_reader_value__o0_b ref09_value_b
  rw [next_eq n S false i (by omega) (by omega) hi,rblanks n S i' (by omega) (by omega) hi',hbb]
  simp only [Option.bind_some]
  generalize hj:i + blk9 (S.drop i) = j at hb ⊢
  have hij:i ≤ j:=by omega
  unfold flow_reader_value__o0_j1
  by_cases hend:j = S.length
  ·have hd:S.drop j = []:=List.drop_eq_nil_of_le (by omega)
   rw [hd]
   have hj2:flow_reader_value__o0_j2 (flow_reader_value__o0 n) n (hd9 []) (hd9 [] == 34) (S_api_Node.mk 0 [] [] []) (S_flow_reader.mk S (j:Int) false) = some false:=rfl
   rw [if_neg (by decide),if_neg (by decide),hj2]
   simp only [Option.bind_some]
   rw [if_neg Bool.false_ne_true]
   simp only [Option.bind_some,Sum.elim_inl]
   rw [plain_read n S false j (by omega) (by omega) hb,hd,if_pos (by rw [hend]; simp)]
   exact ⟨Z8,false,j,false,Z8,_,rfl,rfl,⟨⟨hij,hb⟩,.inr ⟨rfl,rfl,rfl⟩⟩,fun _=>⟨Nat.le_refl _,by rw [decide_eq_false (Nat.lt_irrefl _)]⟩⟩
  have hjl:j < S.length:=by omega
  have hne:((j:Int) == (S.length:Int)) = false:=by rw [eq_i]; exact decide_eq_false hend
  have hhd:hd9 (S.drop j) = (S[j].toNat:Int):=by rw [drop_at hjl]; rfl
  have h32:S[j] ≠ 32:=by
   have:=blk9_none hi
   rw [hj,drop_at hjl] at this
   unfold blk9 at this
   intro e
   rw [if_pos e] at this; omega
  rw [hhd,hne,if_neg Bool.false_ne_true,if_pos (in_i hjl),at_i hjl]
  by_cases c1:((S[j].toNat:Int) == 91) = true
  ·rw [if_pos c1,if_pos c1,wrap_s j (by omega)]
   obtain ⟨v,j2,b2,w,e,h1,h2,⟨h3,h4⟩,h5⟩:=seq_ref (flow_reader_value__o0 n) (ref09_value n) n S j hS (by omega) hjl (fun i1 i2 g1 g2 g3 g4=>hR i1 i2 (by omega) g2 g3 g4)
   rw [h1,h2]
   exact ⟨v,true,j2,b2,w,e,rfl,rfl,⟨⟨by omega,h4⟩,h5⟩,fun _=>⟨by omega,by rw [decide_eq_true (by omega:j < j2)]⟩⟩
  rw [if_neg c1,if_neg c1,if_pos (in_i hjl)]
  by_cases c2:((S[j].toNat:Int) == 123) = true
  ·rw [if_pos c2,if_pos c2,wrap_s j (by omega)]
   obtain ⟨v,j2,b2,w,e,h1,h2,⟨h3,h4⟩,h5⟩:=pairs_ref (flow_reader_value__o0 n) (ref09_value n) n S j hS (by omega) hjl (fun i1 i2 g1 g2 g3 g4=>hR i1 i2 (by omega) g2 g3 g4)
   rw [h1,h2]
   exact ⟨v,true,j2,b2,w,e,rfl,rfl,⟨⟨by omega,h4⟩,h5⟩,fun _=>⟨by omega,by rw [decide_eq_true (by omega:j < j2)]⟩⟩
  rw [if_neg c2,if_neg c2,if_pos (in_i hjl)]
  have hj2:flow_reader_value__o0_j2 (flow_reader_value__o0 n) n (S[j].toNat:Int) ((S[j].toNat:Int) == 34) (S_api_Node.mk 0 [] [] []) (S_flow_reader.mk S (j:Int) false) = some (bif ((S[j].toNat:Int) == 34) then true else ((S[j].toNat:Int) == 39)):=by
   unfold flow_reader_value__o0_j2
   cases ((S[j].toNat:Int) == 34) <;> rfl
  rw [hj2,if_pos (by rw [in_i hjl,Bool.or_true])]
  simp only [Option.bind_some,lett]
  by_cases c3:(bif ((S[j].toNat:Int) == 34) then true else ((S[j].toNat:Int) == 39)) = true
  ·rw [if_pos c3,if_pos c3]
   rw [b34,b39] at c3
   have hq:S[j] = 34 ∨ S[j] = 39:=by
    by_cases h4:S[j] = 34
    ·exact .inl h4
    ·rw [decide_eq_false h4] at c3
     exact .inr (of_decide_eq_true c3)
   obtain ⟨t,e,s1,s2,s3⟩:=scan_both n S j hS (by omega) hjl hq
   unfold flow_reader_quoted__o0
   simp only
   rw [s1,s2]
   simp only [Option.bind_some]
   obtain ⟨e1,e2⟩:=e
   simp only at s3 ⊢
   rcases s3 with ⟨h0,rfl⟩ | ⟨h0,hl,m,rfl,hm1,hm2⟩
   ·have h0:(e2 != 0) = true:=by simpa using h0
    rw [h0,if_pos rfl,if_pos rfl]
    exact ⟨_,true,j,true,Z8,-1,rfl,rfl,⟨⟨hij,hb⟩,.inl ⟨rfl,rfl⟩⟩,fun h=>(by cases h)⟩
   ·subst h0
    have h00:((0:Int) != 0) = false:=rfl
    rw [h00,if_neg Bool.false_ne_true,if_neg Bool.false_ne_true]
    exact ⟨_,true,m,false,_,_,rfl,rfl,⟨⟨by omega,hm2⟩,.inr ⟨rfl,rfl,rfl⟩⟩,fun _=>⟨by omega,by rw [decide_eq_true hm1]⟩⟩
  ·rw [if_neg c3,if_neg c3]
   simp only [Option.bind_some,Sum.elim_inl]
   rw [plain_read n S false j (by omega) (by omega) hb,rplain n S j (by omega) (by omega) hb]
   have hp:=pl9_le (S.drop j)
   rw [List.length_drop] at hp
   have ht:=trim_le ((S.drop j).take (pl9 (S.drop j))) 32
   rw [List.length_take,List.length_drop] at ht
   simp only [Option.bind_some]
   rw [if_pos (le_i (by omega)),if_pos (le_ij (by omega)),tn,tn,show j + pl9 (S.drop j) - j = pl9 (S.drop j) by omega,rtrim n _ (by rw [List.length_take,List.length_drop]; omega) (by rw [List.length_take,List.length_drop]; omega)]
   obtain ⟨x,e,ok,f1,f2,f3,f4,_⟩:=scalar_ref n (Lib.trimRightB ((S.drop j).take (pl9 (S.drop j))) 32) true (by omega) (by omega)
   simp only [Option.bind_some]
   rw [f1,f2]
   simp only [Option.bind_some]
   have hempty:(!(Lib.trimRightB ((S.drop j).take (pl9 (S.drop j))) 32 == [])) = decide (j < j + pl9 (S.drop j)):=by
    by_cases h0:pl9 (S.drop j) = 0
    ·rw [h0,List.take_zero]
     rw [decide_eq_false (by omega)]; rfl
    ·rw [decide_eq_true (by omega)]
     obtain ⟨m,hm⟩:∃ m,pl9 (S.drop j) = m + 1:=⟨pl9 (S.drop j) - 1,by omega⟩
     rw [hm,drop_at hjl,List.take_succ_cons]
     have:Lib.trimRightB (S[j] :: List.take m (S.drop (j + 1))) 32 ≠ []:=trimB_ne h32
     simpa using this
   cases ok with
   | true =>
    have f3:e = 0:=f3
    subst f3
    rw [if_neg (by decide)]
    exact ⟨x,_,j + pl9 (S.drop j),false,x,_,rfl,rfl,⟨⟨by omega,by omega⟩,.inr ⟨rfl,rfl,rfl⟩⟩,fun _=>⟨by omega,hempty⟩⟩
   | false =>
    have f3:e = 3:=f3
    subst f3
    rw [if_pos (by rfl)]
    exact ⟨x,_,j + pl9 (S.drop j),true,Z8,-1,rfl,rfl,⟨⟨by omega,by omega⟩,.inl ⟨rfl,rfl⟩⟩,fun h=>(by cases h)⟩
theorem right_ref (n:Nat) (t:Nd) (hW:Wide 12 t) (hn:300000 ≤ n):∃ b,node_Right n t = some b ∧ ref08_Right n t = some b ∧ (b = true ↔ Fit 12 t ∧ sz8 12 t ≤ 2000):=by
 obtain ⟨b,h1,h2⟩:=node_Right_eq n t hW (by omega)
 refine ⟨b,h1,?_,h2⟩
 unfold ref08_Right
 obtain ⟨r,h3,h4⟩:=left_eq 12 n t 1 2000 (by omega) (by omega) (by omega) (by omega)
 have h3:ref08_Left n t 1 2000 = some r:=h3
 rw [h3,Option.bind_some]
 congr 1
 by_cases hb:b = true
 ·obtain ⟨g1,g2⟩:=h2.1 hb
  have h5:=left_fit 12 n t 1 2000 (by omega) (by omega) (by omega) g1 g2 (by omega)
  have h5:ref08_Left n t 1 2000 = some ((2000 - sz8 12 t:Nat):Int):=h5
  rw [h3] at h5
  cases h5
  rw [hb]
  exact decide_eq_true (by omega)
 ·have hb':b = false:=by simpa using hb
  rw [hb']
  rcases h4 with rfl | ⟨q,rfl,g1,g2⟩
  ·rfl
  ·exact (hb (h2.2 ⟨g1,by omega⟩)).elim
theorem parse_ref (n:Nat) (s:BS) (hs:s.length ≤ 10000) (hn:400000 ≤ n):∃ x e,flow_Parse n s = some (x,e) ∧ ref09_Parse n s = some (x,e) ∧ (e = 0 → Fit 12 x ∧ sz8 12 x ≤ 2000) ∧ Red s.length x:=by
 obtain ⟨v,sm,j,bad,w,e,h1,h2,⟨h3,h4⟩,h5⟩:=value_ref s hs (s.length + 1) n 0 0 (by omega) (by omega) rfl (by omega) (by omega)
 have h1:flow_reader_value__o0 n (S_flow_reader.mk s 0 false) = some (v,sm,S_flow_reader.mk s (j:Int) bad):=h1
 have h2:ref09_value n s 0 = some (w,e):=h2
 have hred:Red s.length v:=by
  obtain ⟨v',_,_,_,g1,_,_,g4⟩:=value_tot s (by omega) (s.length + 1) n 0 false (by omega) (by omega) (by omega)
  have g1:flow_reader_value__o0 n (S_flow_reader.mk s 0 false) = _:=g1
  rw [h1] at g1
  cases g1
  exact g4
 unfold flow_Parse ref09_Parse
 rw [h1,h2]
 simp only [Option.bind_some]
 rcases h4 with ⟨rfl,rfl⟩ | ⟨rfl,rfl,rfl⟩
 ·exact ⟨Z8,3,rfl,rfl,fun h=>(by cases h),Red.null⟩
 ·have hneg:decide ((j:Int) < 0) = false:=decide_eq_false (by omega)
  have hjb:=blk9_drop s j h3.2
  rw [if_pos (by rfl),next_eq n s false j (by omega) (by omega) h3.2,hneg,if_pos (by rfl:((false:Bool) == false) = true),rblanks n s j (by omega) (by omega) h3.2]
  simp only [Option.bind_some]
  generalize hp:j + blk9 (s.drop j) = p at hjb
  by_cases hlt:p < s.length
  ·rw [lt_i hlt,if_pos (by cases (bif false then true else (hd9 (s.drop p) != 0)) <;> rfl),if_pos (by rfl)]
   exact ⟨Z8,3,rfl,rfl,fun h=>(by cases h),Red.null⟩
  ·have hd:s.drop p = []:=List.drop_eq_nil_of_le (by omega)
   rw [nlt_i (by omega),hd,if_neg (by decide),if_neg (by decide)]
   obtain ⟨b,g1,g2,g3⟩:=right_ref n w (hred 12).1 (by omega)
   rw [g1,g2]
   simp only [Option.bind_some]
   cases b with
   | false=>exact ⟨Z8,9,rfl,rfl,fun h=>(by cases h),Red.null⟩
   | true=>exact ⟨w,0,rfl,rfl,fun _=>g3.1 rfl,hred⟩
end Go.Proofs.YtefojkdckfidcaaGreatDoor.M
