import Derived.Test.YtibgdilkodjojaaGreatDoorQPG14B
set_option linter.all false
namespace Go.Proofs.YtibgdilkodjojaaGreatDoor.M
open Go Go.Proofs.YtibgdilkodjojaaGreatDoor.RX Go.Proofs.YtibgdilkodjojaaGreatDoor.PL
set_option maxRecDepth 100000
inductive Pe:Nat → BS → Int → Prop
 | char (d:Nat) (c:UInt8) (r:BS) (e:Int) (h1:c ≠ 36) (h2:¬ (1 < d ∧ c = 125)) (h:Pe d r e):Pe d (c :: r) e
 | dollar (d:Nat) (r:BS) (e:Int) (h:Pe d r e):Pe d (36 :: 36 :: r) e
 | deep (d:Nat) (r:BS) (hd:8 < d) (h0:r.head? ≠ some 36):Pe d (36 :: r) 9
 | plainBad (d:Nat) (r:BS) (hd:d ≤ 8) (h0:r.head? ≠ some 36) (h1:r.head? ≠ some 123) (hv:varB (nmOf r) = false):Pe d (36 :: r) 3
 | plain (d:Nat) (r:BS) (e:Int) (hd:d ≤ 8) (h0:r.head? ≠ some 36) (h1:r.head? ≠ some 123) (hv:varB (nmOf r) = true) (h:Pe d (afOf r) e):Pe d (36 :: r) e
 | refBad (d:Nat) (r:BS) (hd:d ≤ 8) (hv:varB (nmOf r) = false):Pe d (36 :: 123 :: r) 3
 | oneBad (d:Nat) (r:BS) (hd:d ≤ 8) (hv:varB (nmOf r) = true) (ho:(mk (afOf r)).1 = 1) (he:(afOf r).head? ≠ some 125):Pe d (36 :: 123 :: r) 3
 | one (d:Nat) (r r1:BS) (e:Int) (hd:d ≤ 8) (hv:varB (nmOf r) = true) (he:afOf r = 125 :: r1) (h:Pe d r1 e):Pe d (36 :: 123 :: r) e
 | subBad (d:Nat) (r:BS) (e:Int) (hd:d ≤ 8) (hv:varB (nmOf r) = true) (ho:(mk (afOf r)).1 ≠ 1) (hs:Pe (d + 1) ((afOf r).drop (mk (afOf r)).2) e):Pe d (36 :: 123 :: r) e
 | subEnd (d:Nat) (r:BS) (sb:List TP) (r1:BS) (hd:d ≤ 8) (hv:varB (nmOf r) = true) (ho:(mk (afOf r)).1 ≠ 1) (hs:Ps (d + 1) ((afOf r).drop (mk (afOf r)).2) [] sb r1) (he:r1.head? ≠ some 125):Pe d (36 :: 123 :: r) 3
 | sub (d:Nat) (r:BS) (sb:List TP) (r1:BS) (e:Int) (hd:d ≤ 8) (hv:varB (nmOf r) = true) (ho:(mk (afOf r)).1 ≠ 1) (hs:Ps (d + 1) ((afOf r).drop (mk (afOf r)).2) [] sb (125 :: r1)) (h:Pe d r1 e):Pe d (36 :: 123 :: r) e
theorem Pe_ne {d:Nat} {r:BS} {e:Int} (h:Pe d r e):e = 3 ∨ e = 9:=by
 induction h with
 | deep=>exact .inr rfl
 | plainBad=>exact .inl rfl
 | refBad=>exact .inl rfl
 | oneBad=>exact .inl rfl
 | subEnd=>exact .inl rfl
 | char _ _ _ _ _ _ _ ih=>exact ih
 | dollar _ _ _ _ ih=>exact ih
 | plain _ _ _ _ _ _ _ _ ih=>exact ih
 | one _ _ _ _ _ _ _ _ ih=>exact ih
 | subBad _ _ _ _ _ _ _ ih=>exact ih
 | sub _ _ _ _ _ _ _ _ _ _ ih=>exact ih
def FineE (d:Nat) (s:BS) (a:Nat) (w:BS) (l:List TP) (rd:Rd):Prop:=rd.f_s = s ∧ (rd.f_e = 0 → ∃ b:Nat,rd.f_at = (b:Int) ∧ a ≤ b ∧ b ≤ s.length ∧ Ps d (s.drop a) w l (s.drop b)) ∧ (rd.f_e ≠ 0 → Pe d (s.drop a) rd.f_e)
theorem loop_okE (R:Int → Rd → Option (List TP × Rd)) (n d:Nat) (s:BS) (hn:100001 ≤ n) (hd1:1 ≤ d) (hd:d ≤ 9) (hs:s.length ≤ 100000)
  (hR:d ≤ 8 → ∀ a,a ≤ s.length → ∃ l rd,R ((d + 1:Nat):Int) (S_tmpl_reader.mk s (a:Int) 0) = some (l,rd) ∧ FineE (d + 1) s a [] l rd) :
  ∀ (k a:Nat) (out:List TP) (w:BS),a ≤ s.length → s.length - a < k → out.length + w.length ≤ a → ∃ l rd,tmpl_reader_parts__o0_g1_0 R n k (d:Int) out w (S_tmpl_reader.mk s (a:Int) 0) = some (out ++ l,rd) ∧ FineE d s a w l rd
 | 0,a,_,_,_,h,_=>by omega
 | k + 1,a,out,w,h1,h2,h3=>by
  by_cases h:a < s.length
  ·rw [step R n k d out w s a h hs (by omega) (by omega)]
   by_cases hend:1 < d ∧ s[a] = 125
   ·rw [if_pos hend]
    exact ⟨fl w,_,rfl,rfl,fun _=>⟨a,rfl,Nat.le_refl _,h1,.done d _ w (.inr ⟨hend.1,by rw [drop_at h,hend.2]; rfl⟩)⟩,fun hz=>absurd rfl hz⟩
   rw [if_neg hend]
   by_cases h36:s[a] = 36
   ·rw [if_pos h36]
    have go:∀ (p:TP) (rd:Rd),rd.f_s = s → (rd.f_e = 0 → ∃ b:Nat,rd.f_at = (b:Int) ∧ a < b ∧ b ≤ s.length ∧ (∀ l r',Ps d (s.drop b) [] l r' → Ps d (s.drop a) w (fl w ++ p :: l) r') ∧ ∀ e,Pe d (s.drop b) e → Pe d (s.drop a) e) → (rd.f_e ≠ 0 → Pe d (s.drop a) rd.f_e) →
      ∃ l rd',tmpl_reader_parts__o0_g1_0 R n k (d:Int) (out ++ fl w ++ [p]) [] rd = some (out ++ l,rd') ∧ FineE d s a w l rd':=by
     intro p rd e1 e2 e3
     have hf:=fl_len w
     obtain ⟨k,rfl⟩:∃ k',k = k' + 1:=⟨k - 1,by clear e2 e3; omega⟩
     by_cases he:rd.f_e = 0
     ·clear e3
      obtain ⟨b,b1,b2,b3,b4,b5⟩:=e2 he
      clear e2
      rw [rd_eta rd,e1,b1,he]
      obtain ⟨l,rd',q1,q2,q3,q4⟩:=loop_okE R n d s hn hd1 hd hs hR (k + 1) b (out ++ fl w ++ [p]) [] b3 (by omega) (by simp; omega)
      refine ⟨fl w ++ p :: l,rd',by rw [q1]; simp,q2,fun hz=>?_,fun hz=>b5 _ (q4 hz)⟩
      obtain ⟨c,c1,c2,c3,c4⟩:=q3 hz
      exact ⟨c,c1,by omega,c3,b4 _ _ c4⟩
     ·rw [rd_eta rd,stop_err R n k d _ [] rd.f_s rd.f_at rd.f_e he (by simp; omega)]
      exact ⟨fl w ++ [p],_,by simp [fl],e1,fun hz=>absurd hz he,e3⟩
    have hda:s.drop a = 36 :: s.drop (a + 1):=by rw [drop_at h,h36]
    by_cases q36:(s.drop (a + 1)).head? = some 36
    ·obtain ⟨g1,g2,g3⟩:=drop_head q36
     rw [j3_dollar R n d out w s (a + 1) g1 g2 hs (by omega),Option.bind_some]
     obtain ⟨l,rd,q1,q2,q3,q4⟩:=loop_okE R n d s hn hd1 hd hs hR k (a + 1 + 1) out (w ++ [36]) (by omega) (by omega) (by simp; omega)
     refine ⟨l,rd,q1,q2,fun hz=>?_,fun hz=>by rw [hda,g3]; exact .dollar d _ _ (q4 hz)⟩
     obtain ⟨c,c1,c2,c3,c4⟩:=q3 hz
     exact ⟨c,c1,by omega,c3,by rw [hda,g3]; exact .dollar d _ w l _ c4⟩
    ·by_cases q123:(s.drop (a + 1)).head? = some 123
     ·obtain ⟨g1,g2,g3⟩:=drop_head q123
      rw [j3_brace R n d _ out w s (a + 1) g1 g2 hs (by omega),ref_eq R n d s (a + 1 + 1) hn (by omega) hs (by omega)]
      have hlen:=nm_len (s.drop (a + 1 + 1))
      rw [List.length_drop] at hlen
      by_cases h8:8 < d
      ·rw [if_pos h8,Option.bind_some,Option.bind_some]
       exact go _ _ rfl (fun hz=>by cases hz) fun _=>by rw [hda]; exact .deep d _ h8 q36
      rw [if_neg h8]
      cases hv:varB (nmOf (s.drop (a + 1 + 1))) with
      | false =>
       rw [if_neg (by decide),Option.bind_some,Option.bind_some]
       exact go _ _ rfl (fun hz=>by cases hz) fun _=>by rw [hda,g3]; exact .refBad d _ (by omega) hv
      | true =>
       rw [if_pos rfl]
       have haf:=af_drop s (a + 1 + 1)
       by_cases hm:(mk (afOf (s.drop (a + 1 + 1)))).1 = 1
       ·rw [if_pos hm,Option.bind_some,Option.bind_some]
        refine go _ _ rfl (fun hz=>?_) fun hz=>?_
        rotate_left
        ·by_cases hb:(afOf (s.drop (a + 1 + 1))).head? = some 125
         ·exact absurd (if_pos hb) hz
         ·rw [hda,g3]
          show Pe d _ (if (afOf (s.drop (a + 1 + 1))).head? = some 125 then 0 else 3)
          rw [if_neg hb]
          exact .oneBad d _ (by omega) hv hm hb
        by_cases hb:(afOf (s.drop (a + 1 + 1))).head? = some 125
        ·have hb2:=hb
         rw [haf] at hb2
         obtain ⟨f1,f2,f3⟩:=drop_head hb2
         refine ⟨a + 1 + 1 + (nmOf (s.drop (a + 1 + 1))).length + 1,rfl,by omega,by omega,fun l r' hp=>?_,fun e hp=>?_⟩
         ·rw [hda,g3]
          exact .one d _ w _ l r' (by omega) hv (by rw [haf]; exact f3) hp
         ·rw [hda,g3]
          exact .one d _ _ e (by omega) hv (by rw [haf]; exact f3) hp
        ·rw [if_neg hb] at hz; cases hz
       ·rw [if_neg hm]
        obtain ⟨m1,m2,m3,m4,m5⟩:=mk_len (afOf (s.drop (a + 1 + 1)))
        have m1':=m1
        rw [haf,List.length_drop] at m1'
        rw [← haf] at m1'
        obtain ⟨sb,rd,r1,r2,r3,r4⟩:=hR (by omega) (a + 1 + 1 + (nmOf (s.drop (a + 1 + 1))).length + (mk (afOf (s.drop (a + 1 + 1)))).2) (by omega)
        rw [r1,Option.bind_some]
        simp only
        by_cases he:rd.f_e = 0
        ·obtain ⟨b,b1,b2,b3,b4⟩:=r3 he
         rw [rd_eta rd,r2,b1,he,end_eq n s b hs b3,Option.bind_some,Option.bind_some,Option.bind_some]
         have b4':Ps (d + 1) ((afOf (s.drop (a + 1 + 1))).drop (mk (afOf (s.drop (a + 1 + 1)))).2) [] sb (s.drop b):=by
          have hd':=b4
          rw [← List.drop_drop,← haf] at hd'
          exact hd'
         refine go _ _ rfl (fun hz=>?_) fun hz=>?_
         rotate_left
         ·by_cases hb:(s.drop b).head? = some 125
          ·exact absurd (if_pos hb) hz
          ·rw [hda,g3]
           show Pe d _ (if (s.drop b).head? = some 125 then 0 else 3)
           rw [if_neg hb]
           exact .subEnd d _ sb _ (by omega) hv hm b4' hb
         by_cases hb:(s.drop b).head? = some 125
         ·obtain ⟨f1,f2,f3⟩:=drop_head hb
          refine ⟨b + 1,rfl,by omega,by omega,fun l r' hp=>?_,fun e hp=>?_⟩
          ·rw [hda,g3]
           exact .sub d _ w sb _ l r' (by omega) hv hm (by rw [← f3]; exact b4') hp
          ·rw [hda,g3]
           exact .sub d _ sb _ e (by omega) hv hm (by rw [← f3]; exact b4') hp
         ·rw [if_neg hb] at hz; cases hz
        ·rw [rd_eta rd,r2,end_err n s _ _ he,Option.bind_some,Option.bind_some,Option.bind_some]
         refine go _ _ rfl (fun hz=>absurd hz he) fun hz=>?_
         rw [hda,g3]
         refine .subBad d _ _ (by omega) hv hm ?_
         have:=r4 he
         rw [← List.drop_drop,← haf] at this
         exact this
     ·rw [j3_plain R n d _ out w s (a + 1) (by omega) q36 q123 hs (by omega),plain_eq n d s (a + 1) hn hs (by omega)]
      have hlen:=nm_len (s.drop (a + 1))
      rw [List.length_drop] at hlen
      by_cases h8:8 < d
      ·rw [if_pos h8,Option.bind_some,Option.bind_some]
       exact go _ _ rfl (fun hz=>by cases hz) fun _=>by rw [hda]; exact .deep d _ h8 q36
      rw [if_neg h8,Option.bind_some,Option.bind_some]
      refine go _ _ rfl (fun hz=>?_) fun hz=>?_
      rotate_left
      ·cases hv:varB (nmOf (s.drop (a + 1))) with
       | true=>exact absurd (if_pos hv) hz
       | false =>
        rw [hda]
        exact .plainBad d _ (by omega) q36 q123 hv
      cases hv:varB (nmOf (s.drop (a + 1))) with
      | false=>rw [hv] at hz; cases hz
      | true =>
       refine ⟨a + 1 + (nmOf (s.drop (a + 1))).length,rfl,by omega,by omega,fun l r' hp=>?_,fun e hp=>?_⟩
       ·rw [hda]
        exact .plain d _ w l r' (by omega) q36 q123 hv (by rw [af_drop]; exact hp)
       ·rw [hda]
        exact .plain d _ e (by omega) q36 q123 hv (by rw [af_drop]; exact hp)
   ·rw [if_neg h36]
    obtain ⟨l,rd,q1,q2,q3,q4⟩:=loop_okE R n d s hn hd1 hd hs hR k (a + 1) out (w ++ [s[a]]) (by omega) (by omega) (by simp; omega)
    refine ⟨l,rd,q1,q2,fun hz=>?_,fun hz=>by rw [drop_at h]; exact .char d _ _ _ h36 hend (q4 hz)⟩
    obtain ⟨c,c1,c2,c3,c4⟩:=q3 hz
    exact ⟨c,c1,by omega,c3,by rw [drop_at h]; exact .char d _ _ w l _ h36 hend c4⟩
  ·have ha:a = s.length:=by omega
   subst ha
   rw [stop_end R n k d out w s (by omega)]
   exact ⟨fl w,_,rfl,rfl,fun _=>⟨s.length,rfl,Nat.le_refl _,Nat.le_refl _,.done d _ w (.inl (by simp))⟩,fun hz=>absurd rfl hz⟩
theorem parts_okE (s:BS) (hs:s.length ≤ 100000):∀ (m d n:Nat),d + m = 9 → 1 ≤ d → 100002 + m ≤ n → ∀ a,a ≤ s.length → ∃ l rd,tmpl_reader_parts__o0 n (d:Int) (S_tmpl_reader.mk s (a:Int) 0) = some (l,rd) ∧ FineE d s a [] l rd
 | m,d,n,hdm,hd1,hn,a,ha=>by
  obtain ⟨n,rfl⟩:∃ n',n = n' + 1:=⟨n - 1,by omega⟩
  rw [parts_unf]
  obtain ⟨l,rd,q1,q2⟩:=loop_okE (tmpl_reader_parts__o0 n) n d s (by omega) hd1 (by omega) hs (fun h8 a' ha'=>by
   obtain ⟨m,rfl⟩:∃ m',m = m' + 1:=⟨m - 1,by omega⟩
   exact parts_okE s hs m (d + 1) n (by omega) (by omega) (by omega) a' ha') n a [] [] ha (by omega) (by simp)
  exact ⟨l,rd,by simpa using q1,q2⟩
 termination_by m=>m
theorem Parse_okE (n:Nat) (s:BS) (hn:200000 ≤ n) (hs:s.length ≤ 100000):∃ l e,tmpl_Parse n s = some (l,e) ∧ (e = 0 → Ps 1 s [] l []) ∧ (e ≠ 0 → l = [] ∧ Pe 1 s e):=by
 obtain ⟨l,rd,q1,q2,q3,q4⟩:=parts_okE s hs 8 1 n (by omega) (by omega) (by omega) 0 (by omega)
 unfold tmpl_Parse
 have q1:tmpl_reader_parts__o0 n 1 (S_tmpl_reader.mk s 0 0) = some (l,rd):=q1
 rw [q1,Option.bind_some]
 by_cases he:rd.f_e = 0
 ·rw [if_neg (by simp [he])]
  refine ⟨l,0,rfl,fun _=>?_,fun h=>absurd rfl h⟩
  obtain ⟨b,b1,b2,b3,b4⟩:=q3 he
  rw [List.drop_zero] at b4
  have key:∀ {d r w l r'},Ps d r w l r' → d = 1 → r' = []:=by
   intro d r w l r' h
   induction h with
   | done d r w h=>intro e; rcases h with h | h; exact h; omega
   | char _ _ _ _ _ _ _ _ _ ih=>exact ih
   | dollar _ _ _ _ _ _ ih=>exact ih
   | plain _ _ _ _ _ _ _ _ _ _ ih=>exact ih
   | one _ _ _ _ _ _ _ _ _ _ ih=>exact ih
   | sub _ _ _ _ _ _ _ _ _ _ _ _ _ ih=>exact ih
  rw [key b4 rfl] at b4
  exact b4
 ·rw [if_pos (by simpa using he)]
  exact ⟨[],rd.f_e,rfl,fun h=>absurd h he,fun _=>⟨rfl,by have:=q4 he; rwa [List.drop_zero] at this⟩⟩
def flr (w:BS):List RP:=if w = [] then [] else [⟨[],w,0,[]⟩]
def LastVar (l:List RP):Prop:=∀ p,l.getLast? = some p → p.f_Op ≠ 0
theorem letter_eq:∀ c:UInt8,ref13_letter (c.toNat:Int) = wordB c:=byte_all (by decide +kernel)
theorem cap65r {α:Type} {a b:List α} (h:a.length + b.length ≤ 1000000):decide ((List.length a + List.length b) * (64 + 1) ≤ limit) = true:=decide_eq_true (by show (a.length + b.length) * (64 + 1) ≤ 140737488355328; omega)
theorem u8_nat (c:UInt8):UInt8.ofNat (Int.toNat (c.toNat:Int)) = c:=by simp
theorem byte_in (c:UInt8):decide (0 ≤ (c.toNat:Int) ∧ (c.toNat:Int) < 256) = true:=decide_eq_true ⟨by omega,by have:=c.toNat_lt; omega⟩
theorem words_eq (n:Nat) (c:UInt8) (base:List RP) (w:BS) (hb:LastVar base) (hs:base.length + w.length ≤ 100000):ref13_words_o__r0 n (c.toNat:Int) (base ++ flr w) = some (base ++ flr (w ++ [c]),()):=by
 have hflr:flr (w ++ [c]) = [⟨[],w ++ [c],0,[]⟩]:=by unfold flr; rw [if_neg (by simp)]
 rw [hflr]
 unfold ref13_words_o__r0
 by_cases hw:w = []
 ·subst hw
  have h0:flr [] = []:=rfl
  rw [h0,List.append_nil,List.nil_append]
  by_cases hlen:base.length = 0
  ·have hd:decide ((base.length:Int) > 0) = false:=decide_eq_false (by omega)
   simp only [hd,cond_false,lett,Bool.false_eq_true,if_false,byte_in c,if_true,u8_nat]
   rw [if_pos (by rfl),if_pos (cap65r (by simp; omega))]; rfl
  ·have hd:decide ((base.length:Int) > 0) = true:=decide_eq_true (by omega)
   have hwr:IntKind.wrap .i64 ((base.length:Int) - 1) = ((base.length - 1:Nat):Int):=wrap_p _ (by simp at hs; omega) (by omega)
   have hlt:base.length - 1 < base.length:=by omega
   have hop:base[base.length - 1].f_Op ≠ 0:=hb _ (by rw [List.getLast?_eq_getElem?,List.getElem?_eq_getElem hlt])
   have hz:(base[base.length - 1].f_Op == 0) = false:=by simpa using hop
   simp only [hd,hwr,in_i hlt,at_i hlt,hz,cond_true,lett,Bool.or_true,if_true,Bool.false_eq_true,if_false,byte_in c,u8_nat]
   rw [if_pos (cap65r (by simp at hs ⊢; omega))]; rfl
 ·have hfw:flr w = [⟨[],w,0,[]⟩]:=by unfold flr; rw [if_neg hw]
  rw [hfw]
  obtain ⟨L,hL⟩:∃ L,L = base ++ [(⟨[],w,0,[]⟩:RP)]:=⟨_,rfl⟩
  have hlen:L.length = base.length + 1:=by rw [hL]; simp
  have hlw:0 < w.length:=List.length_pos_iff.2 hw
  rw [← hL]
  have hd:decide ((L.length:Int) > 0) = true:=decide_eq_true (by omega)
  have hwr:IntKind.wrap .i64 ((L.length:Int) - 1) = ((base.length:Nat):Int):=by rw [wrap_p _ (by omega) (by omega),hlen]; rfl
  have hlt:base.length < L.length:=by omega
  have hat:L[base.length] = ⟨[],w,0,[]⟩:=by simp [hL]
  have hz:((⟨[],w,0,[]⟩:RP).f_Op == 0) = true:=rfl
  have htk:List.take (Int.toNat (base.length:Int)) L = base:=by rw [tn,hL]; exact List.take_left
  simp only [hd,hwr,in_i hlt,at_i hlt,hat,hz,cond_true,lett,Bool.or_true,if_true,byte_in c,u8_nat,le_i (Nat.le_of_lt hlt),htk,List.nil_append]
  rw [if_pos (str_fits (by simp; omega)),if_pos (cap65r (by simp; omega)),if_pos (cap65r (by simp; omega))]
theorem found_eq (n:Nat) (s:BS) (hs:s.length ≤ 10000) (hn:100000 ≤ n) (a:Nat) (ha:a ≤ s.length):ref13_found n s (a:Int) = some ((a + (nmOf (s.drop a)).length:Nat):Int):=by
 have key:∀ (k i:Nat),i ≤ s.length → s.length - i < k → ref13_found_l1 n s k (i:Int) = some ((i + (nmOf (s.drop i)).length:Nat):Int):=by
  intro k
  induction k with
  | zero=>intro i _ h; omega
  | succ k ih =>
   intro i h1 h2
   rw [ref13_found_l1]
   by_cases h:i < s.length
   ·simp only [lt_i h,in_i h,at_i h,Bool.or_true,if_true,cond_true,letter_eq]
    rw [drop_at h]
    have hn:nmOf (s[i] :: s.drop (i + 1)) = if wordB s[i] = true then s[i] :: nmOf (s.drop (i + 1)) else []:=List.takeWhile_cons
    rw [hn]
    by_cases hw:wordB s[i] = true
    ·rw [if_pos hw,if_pos hw,wrap_s i (by omega),ih (i + 1) (by omega) (by omega)]
     simp only [List.length_cons]
     rw [show i + 1 + (nmOf (List.drop (i + 1) s)).length = i + ((nmOf (List.drop (i + 1) s)).length + 1) by omega]
    ·rw [if_neg hw,if_neg hw]; rfl
   ·have hl:decide ((i:Int) < (List.length s:Int)) = false:=nlt_i (Nat.not_lt.1 h)
    simp only [hl,cond_false,Bool.false_eq_true,if_false]
    rw [if_pos (by rfl),List.drop_eq_nil_of_le (by omega)]; rfl
 unfold ref13_found
 rw [key n a ha (by omega)]; rfl
theorem b_eq (c:UInt8) (k:Nat) (hk:k < 256):((c.toNat:Int) == (k:Int)) = decide (c = UInt8.ofNat k):=beq_byte c k hk
theorem op_eq (n:Nat) (s:BS) (hs:s.length ≤ 10000) (a:Nat) (ha:a ≤ s.length):ref13_op n s (a:Int) = some (((mk (s.drop a)).1:Int),((mk (s.drop a)).2:Int)):=by
 unfold ref13_op ref13_op_j1 ref13_op_j2
 have e58:∀ c:UInt8,((c.toNat:Int) == 58) = decide (c = 58):=fun c=>beq_byte c 58 (by decide)
 have e45:∀ c:UInt8,((c.toNat:Int) == 45) = decide (c = 45):=fun c=>beq_byte c 45 (by decide)
 have e63:∀ c:UInt8,((c.toNat:Int) == 63) = decide (c = 63):=fun c=>beq_byte c 63 (by decide)
 have e43:∀ c:UInt8,((c.toNat:Int) == 43) = decide (c = 43):=fun c=>beq_byte c 43 (by decide)
 rw [wrap_s a (by omega)]
 by_cases h:a < s.length
 ·by_cases h2:a + 1 < s.length
  ·rw [drop_at h,drop_at h2]
   simp only [lt_i h2,lt_i h,in_i h,in_i h2,at_i h,at_i h2,cond_true,Bool.or_true,if_true,lett,e58,e45,e63,e43]
   generalize s[a] = c
   generalize s[a + 1] = c2
   generalize s.drop (a + 1 + 1) = r
   by_cases h58:c = 58
   ·subst h58
    by_cases q1:c2 = 45
    ·subst q1; rfl
    ·by_cases q2:c2 = 63
     ·subst q2; rfl
     ·by_cases q3:c2 = 43
      ·subst q3; rfl
      ·simp [q1,q2,q3,mk]
   ·by_cases q1:c = 45
    ·subst q1; simp [mk]
    ·by_cases q2:c = 63
     ·subst q2; simp [mk]
     ·by_cases q3:c = 43
      ·subst q3; simp [mk]
      ·simp [h58,q1,q2,q3,mk]
  ·have hl:s.drop a = [s[a]]:=by rw [drop_at h,List.drop_eq_nil_of_le (by omega)]
   have hn:decide (((a + 1:Nat):Int) < (List.length s:Int)) = false:=nlt_i (by omega)
   rw [hl]
   simp only [hn,lt_i h,in_i h,at_i h,cond_false,if_true,lett,e45,e63,e43,Bool.false_eq_true,if_false,Option.bind_some,Sum.elim_inl]
   rw [if_pos (by rfl)]
   generalize s[a] = c
   by_cases q1:c = 45
   ·subst q1; rfl
   ·by_cases q2:c = 63
    ·subst q2; rfl
    ·by_cases q3:c = 43
     ·subst q3; rfl
     ·simp [q1,q2,q3,mk]
 ·have hn:decide (((a + 1:Nat):Int) < (List.length s:Int)) = false:=nlt_i (by omega)
  have hn2:decide ((a:Int) < (List.length s:Int)) = false:=nlt_i (by omega)
  rw [List.drop_eq_nil_of_le (by omega)]
  simp only [hn,hn2,cond_false,lett,Bool.false_eq_true,if_false,Option.bind_some,Sum.elim_inl]
  rw [if_pos (by rfl)]; rfl
abbrev RR:=BS → Int → Int → Option (List RP × Int × Int)
abbrev RO:=Sum (Int × List RP) (List RP × Int × Int)
theorem next_eq (s:BS) (a:Nat) (c:UInt8) (k:Nat) (hk:k < 256) (hc:c = UInt8.ofNat k):(bif (decide ((a:Int) < (List.length s:Int))) then ((((s)[Int.toNat (a:Int)]?.getD 0).toNat:Int) == (k:Int)) else false) = decide ((s.drop a).head? = some c):=by
 subst hc
 by_cases h:a < s.length
 ·rw [lt_i h,at_i h,drop_at h,cond_true,b_eq _ _ hk,List.head?_cons]
  by_cases e:s[a] = UInt8.ofNat k
  ·rw [decide_eq_true e,decide_eq_true (by rw [e])]
  ·rw [decide_eq_false e,decide_eq_false (by simpa using e)]
 ·rw [show decide ((a:Int) < (List.length s:Int)) = false from nlt_i (Nat.not_lt.1 h),cond_false,List.drop_eq_nil_of_le (by omega)]
  rfl
theorem guard_eq (s:BS) (a:Nat):((!((decide ((a:Int) < (List.length s:Int))) == true) || decide (0 ≤ (a:Int) ∧ (a:Int) < (List.length s:Int)))) = true:=by
 by_cases h:a < s.length
 ·rw [in_i h,Bool.or_true]
 ·rw [show decide ((a:Int) < (List.length s:Int)) = false from nlt_i (Nat.not_lt.1 h)]; rfl
def rvar (R:RR) (n:Nat) (s:BS) (d k:Nat) (out:List RP) (b:Nat) (br:Bool):Option RO :=
 if varB (nmOf (s.drop b)) = true then
  (ref13_parts_j3 R n s ((b + (nmOf (s.drop b)).length:Nat):Int) (d:Int) out br ⟨nmOf (s.drop b),[],1,[]⟩).bind fun o9=>Sum.elim (fun o9=>ref13_parts_l1 R n s (d:Int) k o9.1 (out ++ [o9.2])) (fun o9=>some (.inr ([],o9.1,o9.2))) o9
 else some (.inr ([],0,3))
theorem rstep (R:RR) (n d k:Nat) (s:BS) (a:Nat) (out:List RP) (h:a < s.length) (hs:s.length ≤ 10000) (hn:100000 ≤ n) (ho:out.length ≤ 100000):ref13_parts_l1 R n s (d:Int) (k + 1) (a:Int) out =
  if 1 < d ∧ s[a] = 125 then some (.inr (out,(a:Int),0))
  else if s[a] ≠ 36 then (ref13_words_o__r0 n (s[a].toNat:Int) out).bind fun r=>ref13_parts_l1 R n s (d:Int) k ((a + 1:Nat):Int) r.1
  else if (s.drop (a + 1)).head? = some 36 then (ref13_words_o__r0 n 36 out).bind fun r=>ref13_parts_l1 R n s (d:Int) k ((a + 1 + 1:Nat):Int) r.1
  else if 8 < d then some (.inr ([],0,9))
  else rvar R n s d k out (if (s.drop (a + 1)).head? = some 123 then a + 1 + 1 else a + 1) (decide ((s.drop (a + 1)).head? = some 123)):=by
 rw [ref13_parts_l1]
 have hd:decide ((d:Int) > 1) = decide (1 < d):=by by_cases h:1 < d <;> simp [h] <;> omega
 have hd8:decide ((d:Int) > 8) = decide (8 < d):=by by_cases h:8 < d <;> simp [h] <;> omega
 have e36:=next_eq s (a + 1) 36 36 (by decide) rfl
 have e123:=next_eq s (a + 1) 123 123 (by decide) rfl
 have e36:(bif (decide (((a + 1:Nat):Int) < (List.length s:Int))) then ((((s)[Int.toNat ((a + 1:Nat):Int)]?.getD 0).toNat:Int) == 36) else false) = decide ((s.drop (a + 1)).head? = some 36):=e36
 have e123:(bif (decide (((a + 1:Nat):Int) < (List.length s:Int))) then ((((s)[Int.toNat ((a + 1:Nat):Int)]?.getD 0).toNat:Int) == 123) else false) = decide ((s.drop (a + 1)).head? = some 123):=e123
 simp only [lt_i h,in_i h,at_i h,if_true,b125,m36,hd,wrap_s a (by omega),guard_eq,e36,e123,lett,hd8]
 by_cases h1:1 < d ∧ s[a] = 125
 ·rw [if_pos h1,if_pos (by simp [h1.1,h1.2])]
 ·rw [if_neg h1,if_neg (by
   by_cases h2:1 < d
   ·have:s[a] ≠ 125:=fun e=>h1 ⟨h2,e⟩
    simp [h2,this]
   ·simp [h2])]
  by_cases h36:s[a] = 36
  ·rw [if_neg (show ¬ (s[a] ≠ 36) by simpa using h36),if_neg (by simp [h36])]
   by_cases q36:(s.drop (a + 1)).head? = some 36
   ·obtain ⟨g1,g2,g3⟩:=drop_head q36
    rw [if_pos (decide_eq_true q36),if_pos q36,wrap_s (a + 1) (by omega)]
   ·rw [if_neg (by simpa using q36),if_neg q36]
    by_cases h8:8 < d
    ·rw [if_pos (decide_eq_true h8),if_pos h8]
    ·rw [if_neg (by simpa using h8),if_neg h8]
     have key:∀ (b:Nat) (br:Bool),b ≤ s.length → ((ref13_found n s (b:Int)).bind fun r7 =>
       if (decide (0 ≤ r7 ∧ r7 ≤ (List.length s:Int))) = true then (if (decide (0 ≤ (b:Int) ∧ (b:Int) ≤ r7)) = true then ((ref02_Variable n (List.take (Int.toNat r7 - Int.toNat (b:Int)) (List.drop (Int.toNat (b:Int)) s))).bind fun r8 =>
       if (!r8) = true then (some (.inr (([]:List (S_ref13_Part)),0,3)))
       else ((ref13_parts_j3 R n s r7 (d:Int) out br (S_ref13_Part.mk (List.take (Int.toNat r7 - Int.toNat (b:Int)) (List.drop (Int.toNat (b:Int)) s)) [] 1 [])).bind fun o9 =>
       (Sum.elim (fun o9=>if (decide ((List.length out + List.length ([o9.2]:List (S_ref13_Part))) * (64 + 1) ≤ limit)) = true then (ref13_parts_l1 R n s (d:Int) k o9.1 (out ++ ([o9.2]:List (S_ref13_Part)))) else none) (fun o9=>some (.inr (([]:List (S_ref13_Part)),o9.1,o9.2)))) o9)) else none) else none:Option RO) = rvar R n s d k out b br:=by
      intro b br hb
      have hlen:=nm_len (s.drop b)
      rw [List.length_drop] at hlen
      have ht:List.take (Int.toNat ((b + (nmOf (s.drop b)).length:Nat):Int) - Int.toNat (b:Int)) (List.drop (Int.toNat (b:Int)) s) = nmOf (s.drop b):=by
       rw [tn,tn,Nat.add_sub_cancel_left]
       exact nm_take _
      rw [found_eq n s hs hn b hb,Option.bind_some,if_pos (le_i (by omega)),if_pos (le_ij (by omega)),ht,ref02_Variable_eq n _ (by omega),Option.bind_some]
      unfold rvar
      have hvb:varB (nmOf (s.drop b)) = isName va1 va2 (nmOf (s.drop b)):=rfl
      rw [← hvb]
      cases varB (nmOf (s.drop b)) with
      | false=>rfl
      | true =>
       simp only [Bool.not_true,Bool.false_eq_true,if_false,if_true]
       congr 1
       funext o9
       cases o9 with
       | inr x=>rfl
       | inl x =>
        simp only [Sum.elim_inl]
        rw [if_pos (cap65r (by simp; omega))]
     unfold ref13_parts_j2
     by_cases q123:(s.drop (a + 1)).head? = some 123
     ·obtain ⟨g1,g2,g3⟩:=drop_head q123
      rw [decide_eq_true q123,if_pos rfl,Option.bind_some,if_pos q123,wrap_s (a + 1) (by omega)]
      exact key (a + 1 + 1) true (by omega)
     ·rw [decide_eq_false q123,if_neg (by decide),Option.bind_some,if_neg q123]
      exact key (a + 1) false (by omega)
  ·rw [if_pos h36,if_pos (by simp [h36])]
theorem rend (R:RR) (n d k:Nat) (s:BS) (out:List RP):ref13_parts_l1 R n s (d:Int) (k + 1) (s.length:Int) out = some (.inl ((s.length:Int),out)):=by
 rw [ref13_parts_l1,nlt_n]; rfl
theorem chk_eq {β:Type} (s:BS) (b:Nat) (p:β) (hs:s.length ≤ 10000):(if ((!((decide ((b:Int) ≥ (List.length s:Int))) == false) || decide (0 ≤ (b:Int) ∧ (b:Int) < (List.length s:Int)))) = true then (if (bif (decide ((b:Int) ≥ (List.length s:Int))) then true else ((((s)[Int.toNat (b:Int)]?.getD 0).toNat:Int) != 125)) = true then (some (.inr (0,3)))
  else (some (.inl ((IntKind.wrap .i64 ((b:Int) + 1)),p)))) else none:Option (Sum (Int × β) (Int × Int))) = if (s.drop b).head? = some 125 then some (.inl (((b + 1:Nat):Int),p)) else some (.inr (0,3)):=by
 by_cases h:b < s.length
 ·have hg:decide ((b:Int) ≥ (List.length s:Int)) = false:=decide_eq_false (by omega)
  simp only [hg,in_i h,at_i h,Bool.or_true,if_true,cond_false,m125]
  rw [drop_at h,List.head?_cons]
  by_cases hc:s[b] = 125
  ·rw [if_neg (by simp [hc]),if_pos (by rw [hc]),wrap_s b (by omega)]
  ·rw [if_pos (by simp [hc]),if_neg (by simpa using hc)]
 ·have hg:decide ((b:Int) ≥ (List.length s:Int)) = true:=decide_eq_true (by omega)
  rw [List.drop_eq_nil_of_le (by omega),hg]
  rfl
theorem j3_no (R:RR) (n:Nat) (s:BS) (e:Int) (d:Int) (out:List RP) (p:RP):ref13_parts_j3 R n s e d out false p = some (.inl (e,p)):=rfl
theorem j3_yes (R:RR) (n:Nat) (s:BS) (e d:Nat) (out:List RP) (nm:BS) (hs:s.length ≤ 10000) (he:e ≤ s.length) (hd:d ≤ 100):ref13_parts_j3 R n s (e:Int) (d:Int) out true ⟨nm,[],1,[]⟩ =
  if (mk (s.drop e)).1 = 1 then (if (s.drop e).head? = some 125 then some (.inl (((e + 1:Nat):Int),⟨nm,[],1,[]⟩)) else some (.inr (0,3)))
  else (R s ((e + (mk (s.drop e)).2:Nat):Int) ((d + 1:Nat):Int)).bind fun r=>if (r.2.2 != 0) = true then some (.inr (0,r.2.2)) else
   (if ((!((decide (r.2.1 ≥ (List.length s:Int))) == false) || decide (0 ≤ r.2.1 ∧ r.2.1 < (List.length s:Int)))) = true then (if (bif (decide (r.2.1 ≥ (List.length s:Int))) then true else ((((s)[Int.toNat r.2.1]?.getD 0).toNat:Int) != 125)) = true then (some (.inr (0,3)))
    else (some (.inl ((IntKind.wrap .i64 (r.2.1 + 1)),(⟨nm,[],((mk (s.drop e)).1:Int),r.1⟩:RP))))) else none):=by
 obtain ⟨m1,m2,m3,m4,m5⟩:=mk_len (s.drop e)
 rw [List.length_drop] at m1
 unfold ref13_parts_j3 ref13_parts_j4
 rw [if_pos rfl,op_eq n s hs e he,Option.bind_some]
 simp only
 have hw:IntKind.wrap .i64 ((e:Int) + ((mk (s.drop e)).2:Int)) = ((e + (mk (s.drop e)).2:Nat):Int):=by rw [wrap_id _ (by omega) (by omega)]; omega
 rw [hw,wrap_s d (by omega)]
 by_cases h1:(mk (s.drop e)).1 = 1
 ·rw [if_pos h1,decide_eq_false (by omega),if_neg (by decide),Option.bind_some,m4 h1,Nat.add_zero,h1]
  simp only [Sum.elim_inl]
  exact chk_eq s e _ hs
 ·rw [if_neg h1,decide_eq_true (by omega),if_pos rfl]
  cases R s ((e + (mk (s.drop e)).2:Nat):Int) ((d + 1:Nat):Int) with
  | none=>rfl
  | some r =>
   simp only [Option.bind_some]
   by_cases hz:(r.2.2 != 0) = true
   ·rw [if_pos hz,if_pos hz]; rfl
   ·rw [if_neg hz,if_neg hz]; rfl
theorem drop_cons {s:BS} {a:Nat} {c:UInt8} {r:BS} (h:c :: r = s.drop a):∃ h':a < s.length,s[a] = c ∧ s.drop (a + 1) = r:=by
 by_cases h':a < s.length
 ·rw [drop_at h'] at h
  injection h with h1 h2
  exact ⟨h',h1.symm,h2.symm⟩
 ·rw [List.drop_eq_nil_of_le (by omega)] at h; cases h
theorem flr_map (m:Nat) (w:BS):(fl w).map (tk m) = flr w:=by
 unfold fl flr
 by_cases h:w = []
 ·rw [if_pos h,if_pos h]; rfl
 ·rw [if_neg h,if_neg h]; simp [tk,Tk_nil]
theorem lastVar_snoc (l:List RP) (p:RP) (h:p.f_Op ≠ 0):LastVar (l ++ [p]):=by
 intro q hq
 rw [List.getLast?_append] at hq
 simp at hq
 rw [← hq]; exact h
theorem flr_len (w:BS):(flr w).length ≤ w.length:=by
 unfold flr
 by_cases h:w = []
 ·rw [if_pos h]; exact Nat.zero_le _
 ·rw [if_neg h]; have:=List.length_pos_iff.2 h; simp; omega
def fin14 (s:BS) (b:Nat) (X:List RP):RO:=if b = s.length then .inl ((b:Int),X) else .inr (X,(b:Int),0)
theorem rparts_of {n d:Nat} {s:BS} {a b:Nat} {X:List RP} (h:ref13_parts_l1 (ref13_parts n) n s (d:Int) n (a:Int) [] = some (fin14 s b X)):ref13_parts (n + 1) s (a:Int) (d:Int) = some (X,(b:Int),0):=by
 show ref13_parts_b (ref13_parts n) n s (a:Int) (d:Int) = _
 unfold ref13_parts_b
 rw [h,Option.bind_some]
 unfold fin14
 by_cases hb:b = s.length
 ·rw [if_pos hb]; rfl
 ·rw [if_neg hb]; rfl
theorem rparts_err {n d:Nat} {s:BS} {a:Nat} {e:Int} (h:ref13_parts_l1 (ref13_parts n) n s (d:Int) n (a:Int) [] = some (.inr ([],0,e))):ref13_parts (n + 1) s (a:Int) (d:Int) = some ([],0,e):=by
 show ref13_parts_b (ref13_parts n) n s (a:Int) (d:Int) = _
 unfold ref13_parts_b
 rw [h]; rfl
theorem rrun {d:Nat} {r w:BS} {l:List TP} {r':BS} (h:Ps d r w l r'):1 ≤ d → d ≤ 9 → ∀ (n k:Nat) (s:BS) (a:Nat) (base:List RP),100001 + (9 - d) ≤ n → s.length ≤ 10000 → a ≤ s.length → r = s.drop a → LastVar base → base.length + w.length ≤ a → s.length - a < k →
  ∃ b:Nat,b ≤ s.length ∧ a ≤ b ∧ r' = s.drop b ∧ ref13_parts_l1 (ref13_parts n) n s (d:Int) k (a:Int) (base ++ flr w) = some (fin14 s b (base ++ l.map (tk (9 - d)))):=by
 induction h with
 | done d r w h =>
  intro hd1 hd9 n k s a base hn hs ha hr hb hw hk
  obtain ⟨k,rfl⟩:∃ k',k = k' + 1:=⟨k - 1,by omega⟩
  refine ⟨a,ha,Nat.le_refl _,hr,?_⟩
  rw [flr_map]
  have hfl:=flr_len w
  by_cases hal:a < s.length
  ·have h125:s[a] = 125 ∧ 1 < d:=by
    rcases h with h | h
    ·rw [hr,drop_at hal] at h; cases h
    ·rw [hr,drop_at hal,List.head?_cons] at h; exact ⟨Option.some.inj h.2,h.1⟩
   rw [rstep _ n d k s a _ hal hs (by omega) (by rw [List.length_append]; omega),if_pos ⟨h125.2,h125.1⟩]
   unfold fin14
   rw [if_neg (by omega)]
  ·have:a = s.length:=by omega
   subst this
   rw [rend]
   unfold fin14
   rw [if_pos rfl]
 | char d c r w l r' h1 h2 h ih =>
  intro hd1 hd9 n k s a base hn hs ha hr hb hw hk
  obtain ⟨k,rfl⟩:∃ k',k = k' + 1:=⟨k - 1,by omega⟩
  obtain ⟨hal,g1,g2⟩:=drop_cons hr
  have hfl:=flr_len w
  rw [rstep _ n d k s a _ hal hs (by omega) (by rw [List.length_append]; omega),if_neg (by rw [g1]; exact h2),if_pos (by rw [g1]; exact h1),g1,words_eq n c base w hb (by omega),Option.bind_some]
  obtain ⟨b,b1,b2,b3,b4⟩:=ih hd1 hd9 n k s (a + 1) base hn hs (by omega) g2.symm hb (by simp; omega) (by omega)
  exact ⟨b,b1,by omega,b3,b4⟩
 | dollar d r w l r' h ih =>
  intro hd1 hd9 n k s a base hn hs ha hr hb hw hk
  obtain ⟨k,rfl⟩:∃ k',k = k' + 1:=⟨k - 1,by omega⟩
  obtain ⟨hal,g1,g2⟩:=drop_cons hr
  obtain ⟨hal2,g3,g4⟩:=drop_cons g2.symm
  have hfl:=flr_len w
  rw [rstep _ n d k s a _ hal hs (by omega) (by rw [List.length_append]; omega),if_neg (by rw [g1]; intro hh; exact absurd hh.2 (by decide)),if_neg (by rw [g1]; simp),if_pos (by rw [g2]; rfl)]
  have hw36:=words_eq n 36 base w hb (by omega)
  have hw36:ref13_words_o__r0 n 36 (base ++ flr w) = some (base ++ flr (w ++ [36]),()):=hw36
  rw [hw36,Option.bind_some]
  obtain ⟨b,b1,b2,b3,b4⟩:=ih hd1 hd9 n k s (a + 1 + 1) base hn hs (by omega) g4.symm hb (by simp; omega) (by omega)
  exact ⟨b,b1,by omega,b3,b4⟩
 | plain d r w l r' hd h0 h1 hv h ih =>
  intro hd1 hd9 n k s a base hn hs ha hr hb hw hk
  obtain ⟨k,rfl⟩:∃ k',k = k' + 1:=⟨k - 1,by omega⟩
  obtain ⟨hal,g1,g2⟩:=drop_cons hr
  have hfl:=flr_len w
  have hlen:=nm_len (s.drop (a + 1))
  rw [List.length_drop] at hlen
  rw [rstep _ n d k s a _ hal hs (by omega) (by rw [List.length_append]; omega),if_neg (by rw [g1]; intro hh; exact absurd hh.2 (by decide)),if_neg (by rw [g1]; simp),if_neg (by rw [g2]; exact h0),if_neg (by omega),if_neg (by rw [g2]; exact h1),decide_eq_false (by rw [g2]; exact h1)]
  unfold rvar
  rw [g2,if_pos hv,j3_no,Option.bind_some]
  simp only [Sum.elim_inl]
  obtain ⟨b,b1,b2,b3,b4⟩:=ih hd1 hd9 n k s (a + 1 + (nmOf r).length) (base ++ flr w ++ [⟨nmOf r,[],1,[]⟩]) hn hs (by rw [← g2]; omega) (by rw [← g2,af_drop]) (lastVar_snoc _ _ (show (1:Int) ≠ 0 by decide)) (by have:=flr_len w; have hnz:=varB_ne hv; have:=List.length_pos_iff.2 hnz; simp; omega) (by rw [← g2]; omega)
  refine ⟨b,b1,by omega,b3,?_⟩
  rw [show flr [] = [] from rfl,List.append_nil] at b4
  rw [b4,List.map_append,flr_map,List.map_cons]
  simp [tk,Tk_nil]
 | one d r w r1 l r' hd hv he h ih =>
  intro hd1 hd9 n k s a base hn hs ha hr hb hw hk
  obtain ⟨k,rfl⟩:∃ k',k = k' + 1:=⟨k - 1,by omega⟩
  obtain ⟨hal,g1,g2⟩:=drop_cons hr
  obtain ⟨hal2,g3,g4⟩:=drop_cons g2.symm
  have hfl:=flr_len w
  have hlen:=nm_len (s.drop (a + 1 + 1))
  rw [List.length_drop] at hlen
  have q123:(s.drop (a + 1)).head? = some 123:=by rw [g2]; rfl
  rw [rstep _ n d k s a _ hal hs (by omega) (by rw [List.length_append]; omega),if_neg (by rw [g1]; intro hh; exact absurd hh.2 (by decide)),if_neg (by rw [g1]; simp),if_neg (by rw [q123]; decide),if_neg (by omega),if_pos q123,decide_eq_true q123]
  unfold rvar
  have haf:s.drop (a + 1 + 1 + (nmOf r).length) = 125 :: r1:=by rw [← he,← g4,af_drop]
  obtain ⟨hal3,g5,g6⟩:=drop_cons haf.symm
  rw [g4,if_pos hv,j3_yes _ n s _ d _ _ hs (by rw [← g4]; omega) (by omega),haf,if_pos (mk_one rfl),if_pos (show (125 :: r1).head? = some 125 from rfl),Option.bind_some]
  simp only [Sum.elim_inl]
  obtain ⟨b,b1,b2,b3,b4⟩:=ih hd1 hd9 n k s (a + 1 + 1 + (nmOf r).length + 1) (base ++ flr w ++ [⟨nmOf r,[],1,[]⟩]) hn hs (by omega) g6.symm (lastVar_snoc _ _ (show (1:Int) ≠ 0 by decide)) (by simp; omega) (by omega)
  refine ⟨b,b1,by omega,b3,?_⟩
  rw [show flr [] = [] from rfl,List.append_nil] at b4
  rw [b4,List.map_append,flr_map,List.map_cons]
  simp [tk,Tk_nil]
 | sub d r w sb r1 l r' hd hv ho hs1 h ihs ih =>
  intro hd1 hd9 n k s a base hn hs ha hr hb hw hk
  obtain ⟨k,rfl⟩:∃ k',k = k' + 1:=⟨k - 1,by omega⟩
  obtain ⟨n,rfl⟩:∃ n',n = n' + 1:=⟨n - 1,by omega⟩
  obtain ⟨hal,g1,g2⟩:=drop_cons hr
  obtain ⟨hal2,g3,g4⟩:=drop_cons g2.symm
  have hfl:=flr_len w
  have hlen:=nm_len (s.drop (a + 1 + 1))
  rw [List.length_drop,g4] at hlen
  have q123:(s.drop (a + 1)).head? = some 123:=by rw [g2]; rfl
  have haf:s.drop (a + 1 + 1 + (nmOf r).length) = afOf r:=by rw [← g4,af_drop]
  obtain ⟨m1,m2,m3,m4,m5⟩:=mk_len (afOf r)
  have m1':=m1
  rw [← haf,List.length_drop,haf] at m1'
  rw [rstep _ (n + 1) d k s a _ hal hs (by omega) (by rw [List.length_append]; omega),if_neg (by rw [g1]; intro hh; exact absurd hh.2 (by decide)),if_neg (by rw [g1]; simp),if_neg (by rw [q123]; decide),if_neg (by omega),if_pos q123,decide_eq_true q123]
  unfold rvar
  rw [g4,if_pos hv,j3_yes _ (n + 1) s _ d _ _ hs (by omega) (by omega),haf,if_neg ho]
  obtain ⟨c,c1,c2,c3,c4⟩:=ihs (by omega) (by omega) n n s (a + 1 + 1 + (nmOf r).length + (mk (afOf r)).2) [] (by omega) hs (by omega) (by rw [← List.drop_drop,haf]) (fun p hp=>by cases hp) (Nat.zero_le _) (by omega)
  rw [show ([]:List RP) ++ flr [] = [] from rfl,List.nil_append] at c4
  rw [rparts_of c4,Option.bind_some]
  simp only
  rw [if_neg (by decide),chk_eq s c _ hs,if_pos (by rw [← c3]; rfl),Option.bind_some]
  simp only [Sum.elim_inl]
  obtain ⟨hal4,_,g7⟩:=drop_cons c3
  obtain ⟨b,b1,b2,b3,b4⟩:=ih hd1 hd9 (n + 1) k s (c + 1) (base ++ flr w ++ [⟨nmOf r,[],((mk (afOf r)).1:Int),sb.map (tk (9 - (d + 1)))⟩]) hn hs (by omega) g7.symm (lastVar_snoc _ _ (by show ((mk (afOf r)).1:Int) ≠ 0; omega)) (by simp; omega) (by omega)
  refine ⟨b,b1,by omega,b3,?_⟩
  rw [show flr [] = [] from rfl,List.append_nil] at b4
  rw [b4,List.map_append,flr_map,List.map_cons]
  have htk:Tk (9 - d) sb = sb.map (tk (9 - (d + 1))):=by
   rw [show 9 - d = (9 - (d + 1)) + 1 by omega]; rfl
  simp [tk,htk]
theorem rerr {d:Nat} {r:BS} {e:Int} (h:Pe d r e):1 ≤ d → d ≤ 9 → ∀ (n k:Nat) (s:BS) (a:Nat) (base:List RP) (w:BS),100001 + (9 - d) ≤ n → s.length ≤ 10000 → a ≤ s.length → r = s.drop a → LastVar base → base.length + w.length ≤ a → s.length - a < k →
  ref13_parts_l1 (ref13_parts n) n s (d:Int) k (a:Int) (base ++ flr w) = some (.inr ([],0,e)):=by
 induction h with
 | char d c r e h1 h2 h ih =>
  intro hd1 hd9 n k s a base w hn hs ha hr hb hw hk
  obtain ⟨k,rfl⟩:∃ k',k = k' + 1:=⟨k - 1,by omega⟩
  obtain ⟨hal,g1,g2⟩:=drop_cons hr
  have hfl:=flr_len w
  rw [rstep _ n d k s a _ hal hs (by omega) (by rw [List.length_append]; omega),if_neg (by rw [g1]; exact h2),if_pos (by rw [g1]; exact h1),g1,words_eq n c base w hb (by omega),Option.bind_some]
  exact ih hd1 hd9 n k s (a + 1) base (w ++ [c]) hn hs (by omega) g2.symm hb (by simp; omega) (by omega)
 | dollar d r e h ih =>
  intro hd1 hd9 n k s a base w hn hs ha hr hb hw hk
  obtain ⟨k,rfl⟩:∃ k',k = k' + 1:=⟨k - 1,by omega⟩
  obtain ⟨hal,g1,g2⟩:=drop_cons hr
  obtain ⟨hal2,g3,g4⟩:=drop_cons g2.symm
  have hfl:=flr_len w
  rw [rstep _ n d k s a _ hal hs (by omega) (by rw [List.length_append]; omega),if_neg (by rw [g1]; intro hh; exact absurd hh.2 (by decide)),if_neg (by rw [g1]; simp),if_pos (by rw [g2]; rfl)]
  have hw36:ref13_words_o__r0 n 36 (base ++ flr w) = some (base ++ flr (w ++ [36]),()):=words_eq n 36 base w hb (by omega)
  rw [hw36,Option.bind_some]
  exact ih hd1 hd9 n k s (a + 1 + 1) base (w ++ [36]) hn hs (by omega) g4.symm hb (by simp; omega) (by omega)
 | deep d r hd h0 =>
  intro hd1 hd9 n k s a base w hn hs ha hr hb hw hk
  obtain ⟨k,rfl⟩:∃ k',k = k' + 1:=⟨k - 1,by omega⟩
  obtain ⟨hal,g1,g2⟩:=drop_cons hr
  have hfl:=flr_len w
  rw [rstep _ n d k s a _ hal hs (by omega) (by rw [List.length_append]; omega),if_neg (by rw [g1]; intro hh; exact absurd hh.2 (by decide)),if_neg (by rw [g1]; simp),if_neg (by rw [g2]; exact h0),if_pos hd]
 | plainBad d r hd h0 h1 hv =>
  intro hd1 hd9 n k s a base w hn hs ha hr hb hw hk
  obtain ⟨k,rfl⟩:∃ k',k = k' + 1:=⟨k - 1,by omega⟩
  obtain ⟨hal,g1,g2⟩:=drop_cons hr
  have hfl:=flr_len w
  rw [rstep _ n d k s a _ hal hs (by omega) (by rw [List.length_append]; omega),if_neg (by rw [g1]; intro hh; exact absurd hh.2 (by decide)),if_neg (by rw [g1]; simp),if_neg (by rw [g2]; exact h0),if_neg (by omega),if_neg (by rw [g2]; exact h1)]
  unfold rvar
  rw [g2,if_neg (by rw [hv]; decide)]
 | plain d r e hd h0 h1 hv h ih =>
  intro hd1 hd9 n k s a base w hn hs ha hr hb hw hk
  obtain ⟨k,rfl⟩:∃ k',k = k' + 1:=⟨k - 1,by omega⟩
  obtain ⟨hal,g1,g2⟩:=drop_cons hr
  have hfl:=flr_len w
  have hlen:=nm_len (s.drop (a + 1))
  rw [List.length_drop] at hlen
  rw [rstep _ n d k s a _ hal hs (by omega) (by rw [List.length_append]; omega),if_neg (by rw [g1]; intro hh; exact absurd hh.2 (by decide)),if_neg (by rw [g1]; simp),if_neg (by rw [g2]; exact h0),if_neg (by omega),if_neg (by rw [g2]; exact h1),decide_eq_false (by rw [g2]; exact h1)]
  unfold rvar
  rw [g2,if_pos hv,j3_no,Option.bind_some]
  simp only [Sum.elim_inl]
  have:=ih hd1 hd9 n k s (a + 1 + (nmOf r).length) (base ++ flr w ++ [⟨nmOf r,[],1,[]⟩]) [] hn hs (by rw [← g2]; omega) (by rw [← g2,af_drop]) (lastVar_snoc _ _ (show (1:Int) ≠ 0 by decide)) (by have hnz:=varB_ne hv; have:=List.length_pos_iff.2 hnz; simp; omega) (by rw [← g2]; omega)
  rw [show flr [] = [] from rfl,List.append_nil] at this
  exact this
 | refBad d r hd hv =>
  intro hd1 hd9 n k s a base w hn hs ha hr hb hw hk
  obtain ⟨k,rfl⟩:∃ k',k = k' + 1:=⟨k - 1,by omega⟩
  obtain ⟨hal,g1,g2⟩:=drop_cons hr
  obtain ⟨hal2,g3,g4⟩:=drop_cons g2.symm
  have hfl:=flr_len w
  have q123:(s.drop (a + 1)).head? = some 123:=by rw [g2]; rfl
  rw [rstep _ n d k s a _ hal hs (by omega) (by rw [List.length_append]; omega),if_neg (by rw [g1]; intro hh; exact absurd hh.2 (by decide)),if_neg (by rw [g1]; simp),if_neg (by rw [q123]; decide),if_neg (by omega),if_pos q123,decide_eq_true q123]
  unfold rvar
  rw [g4,if_neg (by rw [hv]; decide)]
 | oneBad d r hd hv ho he =>
  intro hd1 hd9 n k s a base w hn hs ha hr hb hw hk
  obtain ⟨k,rfl⟩:∃ k',k = k' + 1:=⟨k - 1,by omega⟩
  obtain ⟨hal,g1,g2⟩:=drop_cons hr
  obtain ⟨hal2,g3,g4⟩:=drop_cons g2.symm
  have hfl:=flr_len w
  have hlen:=nm_len (s.drop (a + 1 + 1))
  rw [List.length_drop,g4] at hlen
  have q123:(s.drop (a + 1)).head? = some 123:=by rw [g2]; rfl
  have haf:s.drop (a + 1 + 1 + (nmOf r).length) = afOf r:=by rw [← g4,af_drop]
  rw [rstep _ n d k s a _ hal hs (by omega) (by rw [List.length_append]; omega),if_neg (by rw [g1]; intro hh; exact absurd hh.2 (by decide)),if_neg (by rw [g1]; simp),if_neg (by rw [q123]; decide),if_neg (by omega),if_pos q123,decide_eq_true q123]
  unfold rvar
  rw [g4,if_pos hv,j3_yes _ n s _ d _ _ hs (by omega) (by omega),haf,if_pos ho,if_neg he]
  rfl
 | one d r r1 e hd hv he h ih =>
  intro hd1 hd9 n k s a base w hn hs ha hr hb hw hk
  obtain ⟨k,rfl⟩:∃ k',k = k' + 1:=⟨k - 1,by omega⟩
  obtain ⟨hal,g1,g2⟩:=drop_cons hr
  obtain ⟨hal2,g3,g4⟩:=drop_cons g2.symm
  have hfl:=flr_len w
  have hlen:=nm_len (s.drop (a + 1 + 1))
  rw [List.length_drop,g4] at hlen
  have q123:(s.drop (a + 1)).head? = some 123:=by rw [g2]; rfl
  rw [rstep _ n d k s a _ hal hs (by omega) (by rw [List.length_append]; omega),if_neg (by rw [g1]; intro hh; exact absurd hh.2 (by decide)),if_neg (by rw [g1]; simp),if_neg (by rw [q123]; decide),if_neg (by omega),if_pos q123,decide_eq_true q123]
  unfold rvar
  have haf:s.drop (a + 1 + 1 + (nmOf r).length) = 125 :: r1:=by rw [← he,← g4,af_drop]
  obtain ⟨hal3,g5,g6⟩:=drop_cons haf.symm
  rw [g4,if_pos hv,j3_yes _ n s _ d _ _ hs (by omega) (by omega),haf,if_pos (mk_one rfl),if_pos (show (125 :: r1).head? = some 125 from rfl),Option.bind_some]
  simp only [Sum.elim_inl]
  have:=ih hd1 hd9 n k s (a + 1 + 1 + (nmOf r).length + 1) (base ++ flr w ++ [⟨nmOf r,[],1,[]⟩]) [] hn hs (by omega) g6.symm (lastVar_snoc _ _ (show (1:Int) ≠ 0 by decide)) (by simp; omega) (by omega)
  rw [show flr [] = [] from rfl,List.append_nil] at this
  exact this
 | subBad d r e hd hv ho hs1 ihs =>
  intro hd1 hd9 n k s a base w hn hs ha hr hb hw hk
  obtain ⟨k,rfl⟩:∃ k',k = k' + 1:=⟨k - 1,by omega⟩
  obtain ⟨n,rfl⟩:∃ n',n = n' + 1:=⟨n - 1,by omega⟩
  obtain ⟨hal,g1,g2⟩:=drop_cons hr
  obtain ⟨hal2,g3,g4⟩:=drop_cons g2.symm
  have hfl:=flr_len w
  have hlen:=nm_len (s.drop (a + 1 + 1))
  rw [List.length_drop,g4] at hlen
  have q123:(s.drop (a + 1)).head? = some 123:=by rw [g2]; rfl
  have haf:s.drop (a + 1 + 1 + (nmOf r).length) = afOf r:=by rw [← g4,af_drop]
  obtain ⟨m1,m2,m3,m4,m5⟩:=mk_len (afOf r)
  have m1':=m1
  rw [← haf,List.length_drop,haf] at m1'
  rw [rstep _ (n + 1) d k s a _ hal hs (by omega) (by rw [List.length_append]; omega),if_neg (by rw [g1]; intro hh; exact absurd hh.2 (by decide)),if_neg (by rw [g1]; simp),if_neg (by rw [q123]; decide),if_neg (by omega),if_pos q123,decide_eq_true q123]
  unfold rvar
  rw [g4,if_pos hv,j3_yes _ (n + 1) s _ d _ _ hs (by omega) (by omega),haf,if_neg ho]
  have c4:=ihs (by omega) (by omega) n n s (a + 1 + 1 + (nmOf r).length + (mk (afOf r)).2) [] [] (by omega) hs (by omega) (by rw [← List.drop_drop,haf]) (fun p hp=>by cases hp) (Nat.zero_le _) (by omega)
  rw [show ([]:List RP) ++ flr [] = [] from rfl] at c4
  rw [rparts_err c4,Option.bind_some]
  have hz:(e != 0) = true:=by rcases Pe_ne hs1 with rfl | rfl <;> rfl
  simp only [hz,if_true,Option.bind_some,Sum.elim_inr]
 | subEnd d r sb r1 hd hv ho hs1 he =>
  intro hd1 hd9 n k s a base w hn hs ha hr hb hw hk
  obtain ⟨k,rfl⟩:∃ k',k = k' + 1:=⟨k - 1,by omega⟩
  obtain ⟨n,rfl⟩:∃ n',n = n' + 1:=⟨n - 1,by omega⟩
  obtain ⟨hal,g1,g2⟩:=drop_cons hr
  obtain ⟨hal2,g3,g4⟩:=drop_cons g2.symm
  have hfl:=flr_len w
  have hlen:=nm_len (s.drop (a + 1 + 1))
  rw [List.length_drop,g4] at hlen
  have q123:(s.drop (a + 1)).head? = some 123:=by rw [g2]; rfl
  have haf:s.drop (a + 1 + 1 + (nmOf r).length) = afOf r:=by rw [← g4,af_drop]
  obtain ⟨m1,m2,m3,m4,m5⟩:=mk_len (afOf r)
  have m1':=m1
  rw [← haf,List.length_drop,haf] at m1'
  rw [rstep _ (n + 1) d k s a _ hal hs (by omega) (by rw [List.length_append]; omega),if_neg (by rw [g1]; intro hh; exact absurd hh.2 (by decide)),if_neg (by rw [g1]; simp),if_neg (by rw [q123]; decide),if_neg (by omega),if_pos q123,decide_eq_true q123]
  unfold rvar
  rw [g4,if_pos hv,j3_yes _ (n + 1) s _ d _ _ hs (by omega) (by omega),haf,if_neg ho]
  obtain ⟨c,c1,c2,c3,c4⟩:=rrun hs1 (by omega) (by omega) n n s (a + 1 + 1 + (nmOf r).length + (mk (afOf r)).2) [] (by omega) hs (by omega) (by rw [← List.drop_drop,haf]) (fun p hp=>by cases hp) (Nat.zero_le _) (by omega)
  rw [show ([]:List RP) ++ flr [] = [] from rfl,List.nil_append] at c4
  rw [rparts_of c4,Option.bind_some]
  simp only
  rw [if_neg (by decide),chk_eq s c _ hs,if_neg (by rw [← c3]; exact he)]
  rfl
 | sub d r sb r1 e hd hv ho hs1 h ih =>
  intro hd1 hd9 n k s a base w hn hs ha hr hb hw hk
  obtain ⟨k,rfl⟩:∃ k',k = k' + 1:=⟨k - 1,by omega⟩
  obtain ⟨n,rfl⟩:∃ n',n = n' + 1:=⟨n - 1,by omega⟩
  obtain ⟨hal,g1,g2⟩:=drop_cons hr
  obtain ⟨hal2,g3,g4⟩:=drop_cons g2.symm
  have hfl:=flr_len w
  have hlen:=nm_len (s.drop (a + 1 + 1))
  rw [List.length_drop,g4] at hlen
  have q123:(s.drop (a + 1)).head? = some 123:=by rw [g2]; rfl
  have haf:s.drop (a + 1 + 1 + (nmOf r).length) = afOf r:=by rw [← g4,af_drop]
  obtain ⟨m1,m2,m3,m4,m5⟩:=mk_len (afOf r)
  have m1':=m1
  rw [← haf,List.length_drop,haf] at m1'
  rw [rstep _ (n + 1) d k s a _ hal hs (by omega) (by rw [List.length_append]; omega),if_neg (by rw [g1]; intro hh; exact absurd hh.2 (by decide)),if_neg (by rw [g1]; simp),if_neg (by rw [q123]; decide),if_neg (by omega),if_pos q123,decide_eq_true q123]
  unfold rvar
  rw [g4,if_pos hv,j3_yes _ (n + 1) s _ d _ _ hs (by omega) (by omega),haf,if_neg ho]
  obtain ⟨c,c1,c2,c3,c4⟩:=rrun hs1 (by omega) (by omega) n n s (a + 1 + 1 + (nmOf r).length + (mk (afOf r)).2) [] (by omega) hs (by omega) (by rw [← List.drop_drop,haf]) (fun p hp=>by cases hp) (Nat.zero_le _) (by omega)
  rw [show ([]:List RP) ++ flr [] = [] from rfl,List.nil_append] at c4
  rw [rparts_of c4,Option.bind_some]
  simp only
  obtain ⟨hal4,_,g7⟩:=drop_cons c3
  rw [if_neg (by decide),chk_eq s c _ hs,if_pos (by rw [← c3]; rfl),Option.bind_some]
  simp only [Sum.elim_inl]
  have:=ih hd1 hd9 (n + 1) k s (c + 1) (base ++ flr w ++ [⟨nmOf r,[],((mk (afOf r)).1:Int),sb.map (tk (9 - (d + 1)))⟩]) [] hn hs (by omega) g7.symm (lastVar_snoc _ _ (by show ((mk (afOf r)).1:Int) ≠ 0; omega)) (by simp; omega) (by omega)
  rw [show flr [] = [] from rfl,List.append_nil] at this
  exact this
theorem rParse_ok (n:Nat) (s:BS) (l:List TP) (hn:200000 ≤ n) (hs:s.length ≤ 10000) (h:Ps 1 s [] l []):ref13_Parse n s = some (Tk 9 l,0):=by
 obtain ⟨n,rfl⟩:∃ n',n = n' + 1:=⟨n - 1,by omega⟩
 obtain ⟨b,b1,b2,b3,b4⟩:=rrun h (by omega) (by omega) n n s 0 [] (by omega) hs (by omega) (by rw [List.drop_zero]) (fun p hp=>by cases hp) (Nat.zero_le _) (by omega)
 have h1:=rparts_of b4
 have h1:ref13_parts (n + 1) s 0 1 = some (Tk 9 l,(b:Int),0):=h1
 unfold ref13_Parse
 rw [h1]; rfl
theorem rParse_err (n:Nat) (s:BS) (e:Int) (hn:200000 ≤ n) (hs:s.length ≤ 10000) (h:Pe 1 s e):ref13_Parse n s = some ([],e):=by
 obtain ⟨n,rfl⟩:∃ n',n = n' + 1:=⟨n - 1,by omega⟩
 have b4:=rerr h (by omega) (by omega) n n s 0 [] [] (by omega) hs (by omega) (by rw [List.drop_zero]) (fun p hp=>by cases hp) (Nat.zero_le _) (by omega)
 have h1:ref13_parts (n + 1) s 0 1 = some ([],0,e):=rparts_err b4
 have hz:(e != 0) = true:=by rcases Pe_ne h with rfl | rfl <;> rfl
 unfold ref13_Parse
 rw [h1,Option.bind_some]
 simp only [hz,if_true]
def said:Er → S_ref14_Said
 | .inr t=>⟨t,[],[],0⟩
 | .inl f=>⟨[],f.2.1,f.2.2,f.1⟩
theorem exP_code {m:Nat} {e:List Vr} {p:TP} {f:Int × BS × BS} (hp:exP e (ex m e) (T m) p = .inl f):f.1 ≠ 0:=by
 have hx:∀ l,ex m e l = .inl f → f.1 ≠ 0:=fun l h=>by rcases ex_code m e l f h with h | h <;> rw [h] <;> decide
 unfold exP at hp
 split at hp
 ·cases hp
 ·split at hp
  ·split at hp
   ·exact hx _ hp
   ·split at hp <;> cases hp
    show (4:Int) ≠ 0
    decide
  ·split at hp
   ·exact hx _ hp
   ·split at hp
    ·cases hp
     show (4:Int) ≠ 0
     decide
    ·split at hp <;> cases hp
abbrev SR:=List RP → List Vr → Option S_ref14_Said
theorem rpart_eq (R:SR) (n m:Nat) (e:List Vr) (p:TP) (hs:p.f_Op ≠ 0 → R (Tk m p.f_Sub) e = some (said (ex m e p.f_Sub))) (hT:p.f_Op ≠ 0 → ref13_Text n (Tk m p.f_Sub) = some (T m p.f_Sub))
  (hop:p.f_Op = 0 ∨ ∃ op:Nat,p.f_Op = (op:Int) ∧ 1 ≤ op ∧ op ≤ 7) (hl:∀ x,ref12_Last n e x = some ((firstV e x).getD [],(firstV e x).isSome)):ref14_part R n (tk m p) e = some (said (exP e (ex m e) (T m) p)):=by
 obtain ⟨nm,tx,o,sb⟩:=p
 simp only at hs hT hop
 show ref14_part R n ⟨nm,tx,o,Tk m sb⟩ e = _
 by_cases h0:o = 0
 ·subst h0
  simp [ref14_part,exP,said]
 ·obtain ⟨op,rfl,h1,h7⟩:=hop.resolve_left h0
  replace hs:=hs h0
  replace hT:=hT h0
  unfold ref14_part exP
  simp only [h0,if_false]
  rw [if_neg (by simpa using h0),hl nm,Option.bind_some]
  have ho:op = 1 ∨ op = 2 ∨ op = 3 ∨ op = 4 ∨ op = 5 ∨ op = 6 ∨ op = 7:=by omega
  cases hf:firstV e nm with
  | none=>rcases ho with rfl | rfl | rfl | rfl | rfl | rfl | rfl <;> simp [lett,hs,hT,said]
  | some v =>
   rcases ho with rfl | rfl | rfl | rfl | rfl | rfl | rfl <;> cases v <;> simp [lett,hs,hT,said]
theorem rsays_l1 (R:SR) (n m:Nat) (e:List Vr) (l:List TP) (b:S_ref14_Said) (hN:l.length < 1000000) (hh:∀ p ∈ l,ref14_part R n (tk m p) e = some (said (exP e (ex m e) (T m) p))) (ht:∀ p ∈ l,∀ t,exP e (ex m e) (T m) p = .inr t → t.length ≤ 100000) :
  ∀ (k i:Nat) (acc:BS),i ≤ l.length → l.length - i < k → acc.length ≤ 8192 → ref14_Parts_l1 R n (Tk (m + 1) l) e k acc (i:Int) b = some (match exl (exP e (ex m e) (T m)) acc (l.drop i) with
   | .inr t=>.inl (t,b)
   | .inl f=>.inr (said (.inl f)))
 | 0,i,_,_,h,_=>by omega
 | k + 1,i,acc,h1,h2,h3=>by
  by_cases h:i < l.length
  ·have h':i < (Tk (m + 1) l).length:=by rw [Tk_len]; exact h
   have hp:=hh l[i] (List.getElem_mem h)
   have hle:=ht l[i] (List.getElem_mem h)
   rw [drop_at h,exl,ref14_Parts_l1,if_pos (lt_i h'),if_pos (in_i h'),at_i h',Tk_at m l i h h',hp,Option.bind_some]
   cases hx:exP e (ex m e) (T m) l[i] with
   | inl f =>
    have hz:((said (.inl f)).f_E != 0) = true:=by simpa [said] using exP_code hx
    rw [if_pos hz]
   | inr t =>
    have q2:=hle t hx
    have hz:((said (.inr t)).f_E != 0) = false:=rfl
    have hst:(said (.inr t)).f_Text = t:=rfl
    rw [hz,if_neg (by decide),hst,if_pos (str_fits (by omega))]
    simp only
    by_cases hb:8192 < (acc ++ t).length
    ·rw [if_pos hb,if_pos (decide_eq_true (by omega))]; rfl
    ·rw [if_neg hb,if_neg (by simp only [decide_eq_true_eq]; omega),wrap_s i (by omega)]
     exact rsays_l1 R n m e l b hN hh ht k (i + 1) (acc ++ t) (by omega) (by omega) (by omega)
  ·have hi:i = l.length:=by omega
   subst hi
   have hl:(l.length:Int) = ((Tk (m + 1) l).length:Int):=by rw [Tk_len]
   rw [List.drop_eq_nil_of_le (Nat.le_refl _),exl,ref14_Parts_l1,hl,nlt_n]
   rfl
theorem rparts_say (e:List Vr) (he:∀ v ∈ e,v.f_Val.length ≤ 100) (N0:Nat) (hl:∀ n,N0 < n → ∀ x,ref12_Last n e x = some ((firstV e x).getD [],(firstV e x).isSome)) (hN0:N0 ≤ 100000):∀ (m d n:Nat) (l:List TP),d + m = 9 → 1 ≤ d → V d l → (T (m + 1) l).length ≤ 50000 → 100003 + m ≤ n →
  ref14_Parts n (Tk (m + 1) l) e = some (said (ex (m + 1) e l))
 | m,d,n,l,hdm,hd,hV,hT,hn=>by
  obtain ⟨n,rfl⟩:∃ n',n = n' + 1:=⟨n - 1,by omega⟩
  have hmem:=V_mem hV
  have hlen:=V_len hV m
  have hsub:∀ p ∈ l,p.f_Op ≠ 0 → ∃ m',m = m' + 1 ∧ V (d + 1) p.f_Sub ∧ (T m p.f_Sub).length ≤ 50000:=by
   intro p hp h0
   obtain ⟨h8,op,o1,o2,o3,o4,o5⟩:=(hmem p hp).resolve_left (fun h=>h0 h.1)
   have:=sub_le m hp h0
   exact ⟨m - 1,by omega,o4,by omega⟩
  have h1:=rsays_l1 (ref14_Parts n) n m e l ⟨[],[],[],0⟩ (by omega) (fun p hp=>rpart_eq _ n m e p (fun h0=>by
    obtain ⟨m',rfl,h3,h4⟩:=hsub p hp h0
    exact rparts_say e he N0 hl hN0 m' (d + 1) n p.f_Sub (by omega) (by omega) h3 h4 (by omega)) (fun h0=>by
    obtain ⟨m',rfl,h3,h4⟩:=hsub p hp h0
    exact rText_eq m' (d + 1) n p.f_Sub (by omega) (by omega) h3 h4 (by omega)) ((hmem p hp).elim (fun h=>.inl h.1) fun ⟨_,op,a,b,c,_,_⟩=>.inr ⟨op,a,b,c⟩) (hl n (by omega))) (fun p hp t ht=>exP_le he (fun h0=>by
    have h5:=pc_le m hp
    rw [pc,if_pos h0] at h5
    have:=(escS_len p.f_Text).1
    omega) ht) n 0 [] (by omega) (by omega) (Nat.zero_le _)
  rw [List.drop_zero] at h1
  have h1:ref14_Parts_l1 (ref14_Parts n) n (Tk (m + 1) l) e n [] 0 ⟨[],[],[],0⟩ = _:=h1
  have hexd:ex (m + 1) e l = exl (exP e (ex m e) (T m)) [] l:=rfl
  show ref14_Parts_b (ref14_Parts n) n (Tk (m + 1) l) e = _
  unfold ref14_Parts_b
  rw [hexd,h1,Option.bind_some]
  cases hx:exl (exP e (ex m e) (T m)) [] l <;> rfl
 termination_by m=>m
end Go.Proofs.YtibgdilkodjojaaGreatDoor.M
