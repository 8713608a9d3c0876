import Derived.Test.YtibgdilkodjojaaDoorQP14C
set_option linter.all false
namespace Go.Proofs.YtibgdilkodjojaaDoor.M
open Go Go.Proofs.YtibgdilkodjojaaDoor.RX Go.Proofs.YtibgdilkodjojaaDoor.PL
set_option maxRecDepth 100000
inductive Pe:Nat → BS → Int → Prop
 | char (d:Nat) (c:UInt8) (r:BS) (e:Int) (h1:c ≠ 36) (h2:¬ (1 < d ∧ c = 125)) (h:Pe d r e):Pe d (c :: r) e
 | dollar (d:Nat) (r:BS) (e:Int) (h:Pe d r e):Pe d (36 :: 36 :: r) e
 | deep (d:Nat) (r:BS) (hd:8 < d) (h0:r.head? ≠ some 36):Pe d (36 :: r) 9
 | plainBad (d:Nat) (r:BS) (hd:d ≤ 8) (h0:r.head? ≠ some 36) (h1:r.head? ≠ some 123) (hv:varB (nmOf r) = false):Pe d (36 :: r) 3
 | plain (d:Nat) (r:BS) (e:Int) (hd:d ≤ 8) (h0:r.head? ≠ some 36) (h1:r.head? ≠ some 123) (hv:varB (nmOf r) = true) (h:Pe d (afOf r) e):Pe d (36 :: r) e
 | refBad (d:Nat) (r:BS) (hd:d ≤ 8) (hv:varB (nmOf r) = false):Pe d (36 :: 123 :: r) 3
 | oneBad (d:Nat) (r:BS) (hd:d ≤ 8) (hv:varB (nmOf r) = true) (ho:(mk (afOf r)).1 = 1) (he:(afOf r).head? ≠ some 125):Pe d (36 :: 123 :: r) 3
 | one (d:Nat) (r r1:BS) (e:Int) (hd:d ≤ 8) (hv:varB (nmOf r) = true) (he:afOf r = 125 :: r1) (h:Pe d r1 e):Pe d (36 :: 123 :: r) e
 | subBad (d:Nat) (r:BS) (e:Int) (hd:d ≤ 8) (hv:varB (nmOf r) = true) (ho:(mk (afOf r)).1 ≠ 1) (hs:Pe (d + 1) ((afOf r).drop (mk (afOf r)).2) e):Pe d (36 :: 123 :: r) e
 | subEnd (d:Nat) (r:BS) (sb:List TP) (r1:BS) (hd:d ≤ 8) (hv:varB (nmOf r) = true) (ho:(mk (afOf r)).1 ≠ 1) (hs:Ps (d + 1) ((afOf r).drop (mk (afOf r)).2) [] sb r1) (he:r1.head? ≠ some 125):Pe d (36 :: 123 :: r) 3
 | sub (d:Nat) (r:BS) (sb:List TP) (r1:BS) (e:Int) (hd:d ≤ 8) (hv:varB (nmOf r) = true) (ho:(mk (afOf r)).1 ≠ 1) (hs:Ps (d + 1) ((afOf r).drop (mk (afOf r)).2) [] sb (125 :: r1)) (h:Pe d r1 e):Pe d (36 :: 123 :: r) e
theorem Pe_ne {d:Nat} {r:BS} {e:Int} (h:Pe d r e):e = 3 ∨ e = 9:=by
 induction h with
 | deep=>exact .inr rfl
 | plainBad=>exact .inl rfl
 | refBad=>exact .inl rfl
 | oneBad=>exact .inl rfl
 | subEnd=>exact .inl rfl
 | char _ _ _ _ _ _ _ ih=>exact ih
 | dollar _ _ _ _ ih=>exact ih
 | plain _ _ _ _ _ _ _ _ ih=>exact ih
 | one _ _ _ _ _ _ _ _ ih=>exact ih
 | subBad _ _ _ _ _ _ _ ih=>exact ih
 | sub _ _ _ _ _ _ _ _ _ _ ih=>exact ih
def FineE (d:Nat) (s:BS) (a:Nat) (w:BS) (l:List TP) (rd:Rd):Prop:=rd.f_s = s ∧ (rd.f_e = 0 → ∃ b:Nat,rd.f_at = (b:Int) ∧ a ≤ b ∧ b ≤ s.length ∧ Ps d (s.drop a) w l (s.drop b)) ∧ (rd.f_e ≠ 0 → Pe d (s.drop a) rd.f_e)
theorem loop_okE (R:Int → Rd → Option (List TP × Rd)) (n d:Nat) (s:BS) (hn:100001 ≤ n) (hd1:1 ≤ d) (hd:d ≤ 9) (hs:s.length ≤ 100000)
  (hR:d ≤ 8 → ∀ a,a ≤ s.length → ∃ l rd,R ((d + 1:Nat):Int) (S_tmpl_reader.mk s (a:Int) 0) = some (l,rd) ∧ FineE (d + 1) s a [] l rd) :
  ∀ (k a:Nat) (out:List TP) (w:BS),a ≤ s.length → s.length - a < k → out.length + w.length ≤ a → ∃ l rd,tmpl_reader_parts__o0_g1_0 R n k (d:Int) out w (S_tmpl_reader.mk s (a:Int) 0) = some (out ++ l,rd) ∧ FineE d s a w l rd
 | 0,a,_,_,_,h,_=>by omega
 | k + 1,a,out,w,h1,h2,h3=>by
  by_cases h:a < s.length
  ·rw [step R n k d out w s a h hs (by omega) (by omega)]
   by_cases hend:1 < d ∧ s[a] = 125
   ·rw [if_pos hend]
    exact ⟨fl w,_,rfl,rfl,fun _=>⟨a,rfl,Nat.le_refl _,h1,.done d _ w (.inr ⟨hend.1,by rw [drop_at h,hend.2]; rfl⟩)⟩,fun hz=>absurd rfl hz⟩
   rw [if_neg hend]
   by_cases h36:s[a] = 36
   ·rw [if_pos h36]
    have go:∀ (p:TP) (rd:Rd),rd.f_s = s → (rd.f_e = 0 → ∃ b:Nat,rd.f_at = (b:Int) ∧ a < b ∧ b ≤ s.length ∧ (∀ l r',Ps d (s.drop b) [] l r' → Ps d (s.drop a) w (fl w ++ p :: l) r') ∧ ∀ e,Pe d (s.drop b) e → Pe d (s.drop a) e) → (rd.f_e ≠ 0 → Pe d (s.drop a) rd.f_e) →
      ∃ l rd',tmpl_reader_parts__o0_g1_0 R n k (d:Int) (out ++ fl w ++ [p]) [] rd = some (out ++ l,rd') ∧ FineE d s a w l rd':=by
     intro p rd e1 e2 e3
     have hf:=fl_len w
     obtain ⟨k,rfl⟩:∃ k',k = k' + 1:=⟨k - 1,by clear e2 e3; omega⟩
     by_cases he:rd.f_e = 0
     ·clear e3
      obtain ⟨b,b1,b2,b3,b4,b5⟩:=e2 he
      clear e2
      rw [rd_eta rd,e1,b1,he]
      obtain ⟨l,rd',q1,q2,q3,q4⟩:=loop_okE R n d s hn hd1 hd hs hR (k + 1) b (out ++ fl w ++ [p]) [] b3 (by omega) (by simp; omega)
      refine ⟨fl w ++ p :: l,rd',by rw [q1]; simp,q2,fun hz=>?_,fun hz=>b5 _ (q4 hz)⟩
      obtain ⟨c,c1,c2,c3,c4⟩:=q3 hz
      exact ⟨c,c1,by omega,c3,b4 _ _ c4⟩
     ·rw [rd_eta rd,stop_err R n k d _ [] rd.f_s rd.f_at rd.f_e he (by simp; omega)]
      exact ⟨fl w ++ [p],_,by simp [fl],e1,fun hz=>absurd hz he,e3⟩
    have hda:s.drop a = 36 :: s.drop (a + 1):=by rw [drop_at h,h36]
    by_cases q36:(s.drop (a + 1)).head? = some 36
    ·obtain ⟨g1,g2,g3⟩:=drop_head q36
     rw [j3_dollar R n d out w s (a + 1) g1 g2 hs (by omega),Option.bind_some]
     obtain ⟨l,rd,q1,q2,q3,q4⟩:=loop_okE R n d s hn hd1 hd hs hR k (a + 1 + 1) out (w ++ [36]) (by omega) (by omega) (by simp; omega)
     refine ⟨l,rd,q1,q2,fun hz=>?_,fun hz=>by rw [hda,g3]; exact .dollar d _ _ (q4 hz)⟩
     obtain ⟨c,c1,c2,c3,c4⟩:=q3 hz
     exact ⟨c,c1,by omega,c3,by rw [hda,g3]; exact .dollar d _ w l _ c4⟩
    ·by_cases q123:(s.drop (a + 1)).head? = some 123
     ·obtain ⟨g1,g2,g3⟩:=drop_head q123
      rw [j3_brace R n d _ out w s (a + 1) g1 g2 hs (by omega),ref_eq R n d s (a + 1 + 1) hn (by omega) hs (by omega)]
      have hlen:=nm_len (s.drop (a + 1 + 1))
      rw [List.length_drop] at hlen
      by_cases h8:8 < d
      ·rw [if_pos h8,Option.bind_some,Option.bind_some]
       exact go _ _ rfl (fun hz=>by cases hz) fun _=>by rw [hda]; exact .deep d _ h8 q36
      rw [if_neg h8]
      cases hv:varB (nmOf (s.drop (a + 1 + 1))) with
      | false =>
       rw [if_neg (by decide),Option.bind_some,Option.bind_some]
       exact go _ _ rfl (fun hz=>by cases hz) fun _=>by rw [hda,g3]; exact .refBad d _ (by omega) hv
      | true =>
       rw [if_pos rfl]
       have haf:=af_drop s (a + 1 + 1)
       by_cases hm:(mk (afOf (s.drop (a + 1 + 1)))).1 = 1
       ·rw [if_pos hm,Option.bind_some,Option.bind_some]
        refine go _ _ rfl (fun hz=>?_) fun hz=>?_
        rotate_left
        ·by_cases hb:(afOf (s.drop (a + 1 + 1))).head? = some 125
         ·exact absurd (if_pos hb) hz
         ·rw [hda,g3]
          show Pe d _ (if (afOf (s.drop (a + 1 + 1))).head? = some 125 then 0 else 3)
          rw [if_neg hb]
          exact .oneBad d _ (by omega) hv hm hb
        by_cases hb:(afOf (s.drop (a + 1 + 1))).head? = some 125
        ·have hb2:=hb
         rw [haf] at hb2
         obtain ⟨f1,f2,f3⟩:=drop_head hb2
         refine ⟨a + 1 + 1 + (nmOf (s.drop (a + 1 + 1))).length + 1,rfl,by omega,by omega,fun l r' hp=>?_,fun e hp=>?_⟩
         ·rw [hda,g3]
          exact .one d _ w _ l r' (by omega) hv (by rw [haf]; exact f3) hp
         ·rw [hda,g3]
          exact .one d _ _ e (by omega) hv (by rw [haf]; exact f3) hp
        ·rw [if_neg hb] at hz; cases hz
       ·rw [if_neg hm]
        obtain ⟨m1,m2,m3,m4,m5⟩:=mk_len (afOf (s.drop (a + 1 + 1)))
        have m1':=m1
        rw [haf,List.length_drop] at m1'
        rw [← haf] at m1'
        obtain ⟨sb,rd,r1,r2,r3,r4⟩:=hR (by omega) (a + 1 + 1 + (nmOf (s.drop (a + 1 + 1))).length + (mk (afOf (s.drop (a + 1 + 1)))).2) (by omega)
        rw [r1,Option.bind_some]
        simp only
        by_cases he:rd.f_e = 0
        ·obtain ⟨b,b1,b2,b3,b4⟩:=r3 he
         rw [rd_eta rd,r2,b1,he,end_eq n s b hs b3,Option.bind_some,Option.bind_some,Option.bind_some]
         have b4':Ps (d + 1) ((afOf (s.drop (a + 1 + 1))).drop (mk (afOf (s.drop (a + 1 + 1)))).2) [] sb (s.drop b):=by
          have hd':=b4
          rw [← List.drop_drop,← haf] at hd'
          exact hd'
         refine go _ _ rfl (fun hz=>?_) fun hz=>?_
         rotate_left
         ·by_cases hb:(s.drop b).head? = some 125
          ·exact absurd (if_pos hb) hz
          ·rw [hda,g3]
           show Pe d _ (if (s.drop b).head? = some 125 then 0 else 3)
           rw [if_neg hb]
           exact .subEnd d _ sb _ (by omega) hv hm b4' hb
         by_cases hb:(s.drop b).head? = some 125
         ·obtain ⟨f1,f2,f3⟩:=drop_head hb
          refine ⟨b + 1,rfl,by omega,by omega,fun l r' hp=>?_,fun e hp=>?_⟩
          ·rw [hda,g3]
           exact .sub d _ w sb _ l r' (by omega) hv hm (by rw [← f3]; exact b4') hp
          ·rw [hda,g3]
           exact .sub d _ sb _ e (by omega) hv hm (by rw [← f3]; exact b4') hp
         ·rw [if_neg hb] at hz; cases hz
        ·rw [rd_eta rd,r2,end_err n s _ _ he,Option.bind_some,Option.bind_some,Option.bind_some]
         refine go _ _ rfl (fun hz=>absurd hz he) fun hz=>?_
         rw [hda,g3]
         refine .subBad d _ _ (by omega) hv hm ?_
         have:=r4 he
         rw [← List.drop_drop,← haf] at this
         exact this
     ·rw [j3_plain R n d _ out w s (a + 1) (by omega) q36 q123 hs (by omega),plain_eq n d s (a + 1) hn hs (by omega)]
      have hlen:=nm_len (s.drop (a + 1))
      rw [List.length_drop] at hlen
      by_cases h8:8 < d
      ·rw [if_pos h8,Option.bind_some,Option.bind_some]
       exact go _ _ rfl (fun hz=>by cases hz) fun _=>by rw [hda]; exact .deep d _ h8 q36
      rw [if_neg h8,Option.bind_some,Option.bind_some]
      refine go _ _ rfl (fun hz=>?_) fun hz=>?_
      rotate_left
      ·cases hv:varB (nmOf (s.drop (a + 1))) with
       | true=>exact absurd (if_pos hv) hz
       | false =>
        rw [hda]
        exact .plainBad d _ (by omega) q36 q123 hv
      cases hv:varB (nmOf (s.drop (a + 1))) with
      | false=>rw [hv] at hz; cases hz
      | true =>
       refine ⟨a + 1 + (nmOf (s.drop (a + 1))).length,rfl,by omega,by omega,fun l r' hp=>?_,fun e hp=>?_⟩
       ·rw [hda]
        exact .plain d _ w l r' (by omega) q36 q123 hv (by rw [af_drop]; exact hp)
       ·rw [hda]
        exact .plain d _ e (by omega) q36 q123 hv (by rw [af_drop]; exact hp)
   ·rw [if_neg h36]
    obtain ⟨l,rd,q1,q2,q3,q4⟩:=loop_okE R n d s hn hd1 hd hs hR k (a + 1) out (w ++ [s[a]]) (by omega) (by omega) (by simp; omega)
    refine ⟨l,rd,q1,q2,fun hz=>?_,fun hz=>by rw [drop_at h]; exact .char d _ _ _ h36 hend (q4 hz)⟩
    obtain ⟨c,c1,c2,c3,c4⟩:=q3 hz
    exact ⟨c,c1,by omega,c3,by rw [drop_at h]; exact .char d _ _ w l _ h36 hend c4⟩
  ·have ha:a = s.length:=by omega
   subst ha
   rw [stop_end R n k d out w s (by omega)]
   exact ⟨fl w,_,rfl,rfl,fun _=>⟨s.length,rfl,Nat.le_refl _,Nat.le_refl _,.done d _ w (.inl (by simp))⟩,fun hz=>absurd rfl hz⟩
theorem parts_okE (s:BS) (hs:s.length ≤ 100000):∀ (m d n:Nat),d + m = 9 → 1 ≤ d → 100002 + m ≤ n → ∀ a,a ≤ s.length → ∃ l rd,tmpl_reader_parts__o0 n (d:Int) (S_tmpl_reader.mk s (a:Int) 0) = some (l,rd) ∧ FineE d s a [] l rd
 | m,d,n,hdm,hd1,hn,a,ha=>by
  obtain ⟨n,rfl⟩:∃ n',n = n' + 1:=⟨n - 1,by omega⟩
  rw [parts_unf]
  obtain ⟨l,rd,q1,q2⟩:=loop_okE (tmpl_reader_parts__o0 n) n d s (by omega) hd1 (by omega) hs (fun h8 a' ha'=>by
   obtain ⟨m,rfl⟩:∃ m',m = m' + 1:=⟨m - 1,by omega⟩
   exact parts_okE s hs m (d + 1) n (by omega) (by omega) (by omega) a' ha') n a [] [] ha (by omega) (by simp)
  exact ⟨l,rd,by simpa using q1,q2⟩
 termination_by m=>m
theorem Parse_okE (n:Nat) (s:BS) (hn:200000 ≤ n) (hs:s.length ≤ 100000):∃ l e,tmpl_Parse n s = some (l,e) ∧ (e = 0 → Ps 1 s [] l []) ∧ (e ≠ 0 → l = [] ∧ Pe 1 s e):=by
 obtain ⟨l,rd,q1,q2,q3,q4⟩:=parts_okE s hs 8 1 n (by omega) (by omega) (by omega) 0 (by omega)
 unfold tmpl_Parse
 have q1:tmpl_reader_parts__o0 n 1 (S_tmpl_reader.mk s 0 0) = some (l,rd):=q1
 rw [q1,Option.bind_some]
 by_cases he:rd.f_e = 0
 ·rw [if_neg (by simp [he])]
  refine ⟨l,0,rfl,fun _=>?_,fun h=>absurd rfl h⟩
  obtain ⟨b,b1,b2,b3,b4⟩:=q3 he
  rw [List.drop_zero] at b4
  have key:∀ {d r w l r'},Ps d r w l r' → d = 1 → r' = []:=by
   intro d r w l r' h
   induction h with
   | done d r w h=>intro e; rcases h with h | h; exact h; omega
   | char _ _ _ _ _ _ _ _ _ ih=>exact ih
   | dollar _ _ _ _ _ _ ih=>exact ih
   | plain _ _ _ _ _ _ _ _ _ _ ih=>exact ih
   | one _ _ _ _ _ _ _ _ _ _ ih=>exact ih
   | sub _ _ _ _ _ _ _ _ _ _ _ _ _ ih=>exact ih
  rw [key b4 rfl] at b4
  exact b4
 ·rw [if_pos (by simpa using he)]
  exact ⟨[],rd.f_e,rfl,fun h=>absurd h he,fun _=>⟨rfl,by have:=q4 he; rwa [List.drop_zero] at this⟩⟩
end Go.Proofs.YtibgdilkodjojaaDoor.M
