import Derived.Test.YtaecmkldkljioaaQM36c
set_option linter.all false
namespace Go.Proofs.Ytaecmkldkljioaa.M
open Go.RowKit Go.Proofs.Ytaecmkldkljioaa.RX
set_option maxRecDepth 100000
theorem ok_law36_ViewTells (n:Nat) (a0:S_ref36_Seen) (a1:S_api_Project) (a2:List UInt8) (a3:List UInt8) (a4:Int) (r:Bool) (h:law36_ViewTells n a0 a1 a2 a3 a4 = some r):CallsX Try.prog 4 [.agg (qc4 a0),.agg (qc21 a1),.str a2,.str a3,vi a4] (vb r):=by
 unfold law36_ViewTells at h
 refine xo Try.f4 rfl fun F0 w0 _=>?_
 refine Wp.seq (rg [2,3,4,5,6] [5,6] [(2,.str a2),(3,.str a3),(4,vi a4),(5,.own 5 0),(6,.own 6 0)] [(5,25,qc4 a0),(6,29,qc21 a1)] (To.thenN (Wp.seq (Wp.seq ?_))))
 obtain ⟨r1,hr1,h⟩:=bind_of h
 refine rc [] 1 [2,3,4,5,6,25] [5,6] [(2,.str a2),(3,.str a3),(4,vi a4),(5,.own 5 0),(6,.own 6 0),(25,vb (bif (!r1) then true else (decide ((ex20 a1) > 20))))] [(5,25,qc4 a0),(6,29,qc21 a1)] (ok_law36_Few n a0 _ hr1) (To.thenN (cn h (fun h=>?_) (fun h=>?_)))
 ·refine Wp.seq ?_
  obtain ⟨r2,hr2,h⟩:=bind_of h
  refine rc [] 0 [10] [] [(10,vb r2)] [] (ok_law36_awake n  _ hr2) (To.thenN (Wp.ret (To.thenR ?_)))
  cases h
  exact To.done hΓ (by kernel_rfl)
 ·refine Wp.skip (To.thenN (Wp.seq (rg [2,3,4,5,6,11] [5,6,11] [(2,.str a2),(3,.str a3),(4,vi a4),(5,.own 5 0),(6,.own 6 0),(11,.own 11 0)] [(5,25,qc4 a0),(6,29,qc21 a1),(11,32,qc4 a0)] (To.thenN (Wp.seq (Wp.seq ?_))))))
  obtain ⟨r3,hr3,h⟩:=bind_of h
  obtain ⟨r4,hr4,h⟩:=bind_of h
  obtain ⟨r5,hr5,h⟩:=bind_of h
  obtain ⟨r6,hr6,h⟩:=bind_of h
  obtain ⟨r7,hr7,h⟩:=bind_of h
  obtain ⟨r8,hr8,h⟩:=bind_of h
  obtain ⟨r9,hr9,h⟩:=bind_of h
  obtain ⟨r10,hr10,h⟩:=bind_of h
  obtain ⟨r11,hr11,h⟩:=bind_of h
  refine Wp.regionD hm hΓ [(2,rs2 r3),(5,rs2 r4),(6,vb r5),(12,rs2 r6),(16,rs2 r7),(17,vb r8),(23,rs2 r9),(26,rs2 r10),(27,vb r11)] [2,3,4,5,11,57] [5,11] (K':=[(2,.str a2),(3,.str a3),(4,vi a4),(5,.own 5 0),(11,.own 11 0),(57,vb (bif (bif (!r5) then true else (!r8)) then true else (!r11)))]) (L':=[(5,25,qc4 a0),(11,32,qc4 a0)]) (ob:=[(true = true → CX Try.prog 11 [.agg (qc4 a0),.str a2] (rs2 r3)),(true = true → CX Try.prog 15 [.agg (qc4 a0),.str a2] (rs2 r4)),(true = true → CX Try.prog 14 [rs2 r3,rs2 r4] (vb r5)),(((!r5) == false) = true → CX Try.prog 10 [.agg (qc4 a0),.str a2,.str a3] (rs2 r6)),(((!r5) == false) = true → CX Try.prog 16 [.agg (qc4 a0),.str a2,.str a3] (rs2 r7)),(((!r5) == false) = true → CX Try.prog 14 [rs2 r6,rs2 r7] (vb r8)),(((bif (!r5) then true else (!r8)) == false) = true → CX Try.prog 9 [.agg (qc4 a0),.agg (qc21 a1)] (rs2 r9)),(((bif (!r5) then true else (!r8)) == false) = true → CX Try.prog 17 [.agg (qc4 a0),.agg (qc21 a1)] (rs2 r10)),(((bif (!r5) then true else (!r8)) == false) = true → CX Try.prog 14 [rs2 r9,rs2 r10] (vb r11))]) (by kernel_rfl) (AllP.cons (fun _=>cx (ok_view_Mine n a0 a2 _ hr3)) (AllP.cons (fun _=>cx (ok_ref36_Mine n a0 a2 _ hr4)) (AllP.cons (fun _=>cx (ok_law33_SameBoxes n r3 r4 _ hr5)) (AllP.cons (fun hg=>cx (ok_view_Service n a0 a2 a3 _ (if_t hg hr6))) (AllP.cons (fun hg=>cx (ok_ref36_Service n a0 a2 a3 _ (if_t hg hr7))) (AllP.cons (fun hg=>cx (ok_law33_SameBoxes n r6 r7 _ (if_t hg hr8))) (AllP.cons (fun hg=>cx (ok_view_Orphans n a0 a1 _ (if_t hg hr9))) (AllP.cons (fun hg=>cx (ok_ref36_Orphans n a0 a1 _ (if_t hg hr10))) (AllP.cons (fun hg=>cx (ok_law33_SameBoxes n r9 r10 _ (if_t hg hr11))) AllP.nil))))))))) (To.thenN (cn h (fun h=>?_) (fun h=>?_)))
  ·refine Wp.seq (rg [10] [] [(10,vb false)] [] (To.thenN (Wp.ret (To.thenR ?_))))
   cases h
   exact To.done hΓ (by kernel_rfl)
  ·refine Wp.skip (To.thenN (Wp.seq (Wp.seq ?_)))
   obtain ⟨r12,hr12,h⟩:=bind_of h
   obtain ⟨r13,hr13,h⟩:=bind_of h
   obtain ⟨r14,hr14,h⟩:=bind_of h
   obtain ⟨r15,hr15,h⟩:=bind_of h
   obtain ⟨r16,hr16,h⟩:=bind_of h
   obtain ⟨r17,hr17,h⟩:=bind_of h
   obtain ⟨r18,hr18,h⟩:=bind_of h
   obtain ⟨r19,hr19,h⟩:=bind_of h
   obtain ⟨r20,hr20,h⟩:=bind_of h
   obtain ⟨r21,hr21,h⟩:=bind_of h
   obtain ⟨r22,hr22,h⟩:=bind_of h
   obtain ⟨r23,hr23,h⟩:=bind_of h
   obtain ⟨x24,hx24,h⟩:=lett_of h
   refine Wp.regionD hm hΓ [(2,ls r12),(6,ls r13),(7,vb r14),(12,ls r15),(16,ls r16),(17,vb r17),(23,vb r18),(27,vb r19),(33,vb r20),(37,vb r21),(43,vb r22),(46,vb r23)] [4,5,106] [5] (K':=[(4,vi a4),(5,.own 5 0),(106,vb (bif (bif (bif (bif (!r14) then true else (!r17)) then true else (!(r18 == r19))) then true else (!(r20 == r21))) then true else (!(r22 == r23))))]) (L':=[(5,25,qc4 a0)]) (ob:=[(true = true → CX Try.prog 19 [.agg (qc4 a0),.str a2] (ls r12)),(true = true → CX Try.prog 20 [rs3 a0.f_Nets,.str a2] (ls r13)),(true = true → CX Try.prog 18 [ls r12,ls r13] (vb r14)),(((!r14) == false) = true → CX Try.prog 21 [.agg (qc4 a0),.str a2] (ls r15)),(((!r14) == false) = true → CX Try.prog 20 [rs3 a0.f_Vols,.str a2] (ls r16)),(((!r14) == false) = true → CX Try.prog 18 [ls r15,ls r16] (vb r17)),(((bif (!r14) then true else (!r17)) == false) = true → CX Try.prog 22 [.agg (qc4 a0),.str a3] (vb r18)),(((bif (!r14) then true else (!r17)) == false) = true → CX Try.prog 23 [rs3 a0.f_Nets,.str a3] (vb r19)),(((bif (bif (!r14) then true else (!r17)) then true else (!(r18 == r19))) == false) = true → CX Try.prog 24 [.agg (qc4 a0),.str a3] (vb r20)),(((bif (bif (!r14) then true else (!r17)) then true else (!(r18 == r19))) == false) = true → CX Try.prog 23 [rs3 a0.f_Vols,.str a3] (vb r21)),(((bif (bif (bif (!r14) then true else (!r17)) then true else (!(r18 == r19))) then true else (!(r20 == r21))) == false) = true → CX Try.prog 25 [.agg (qc4 a0),.str a3] (vb r22)),(((bif (bif (bif (!r14) then true else (!r17)) then true else (!(r18 == r19))) then true else (!(r20 == r21))) == false) = true → CX Try.prog 26 [.agg (qc4 a0),.str a3] (vb r23))]) (by kernel_rfl) (AllP.cons (fun _=>cx (ok_view_Nets n a0 a2 _ hr12)) (AllP.cons (fun _=>cx (ok_ref36_Names n a0.f_Nets a2 _ hr13)) (AllP.cons (fun _=>cx (ok_ref02_Same n r12 r13 _ hr14)) (AllP.cons (fun hg=>cx (ok_view_Vols n a0 a2 _ (if_t hg hr15))) (AllP.cons (fun hg=>cx (ok_ref36_Names n a0.f_Vols a2 _ (if_t hg hr16))) (AllP.cons (fun hg=>cx (ok_ref02_Same n r15 r16 _ (if_t hg hr17))) (AllP.cons (fun hg=>cx (ok_view_Net n a0 a3 _ (if_t hg hr18))) (AllP.cons (fun hg=>cx (ok_ref36_Named n a0.f_Nets a3 _ (if_t hg hr19))) (AllP.cons (fun hg=>cx (ok_view_Vol n a0 a3 _ (if_t hg hr20))) (AllP.cons (fun hg=>cx (ok_ref36_Named n a0.f_Vols a3 _ (if_t hg hr21))) (AllP.cons (fun hg=>cx (ok_view_Busy n a0 a3 _ (if_t hg hr22))) (AllP.cons (fun hg=>cx (ok_ref36_Busy n a0 a3 _ (if_t hg hr23))) AllP.nil)))))))))))) (To.eq (K':=[(4,vi a4),(5,.own 5 0),(106,vb x24)]) (L':=[(5,25,qc4 a0)]) (by cases hx24; rfl) (by cases hx24; rfl) (To.thenN (cn h (fun h=>?_) (fun h=>?_))))
   ·refine Wp.seq (rg [10] [] [(10,vb false)] [] (To.thenN (Wp.ret (To.thenR ?_))))
    cases h
    exact To.done hΓ (by kernel_rfl)
   ·refine Wp.skip (To.thenN (Wp.seq (rg [4,5,12,13] [5] [(4,vi a4),(5,.own 5 0),(12,vi 0),(13,vi (-1))] [(5,25,qc4 a0)] (To.thenN (Wp.seq (Wp.seq (rg [4,5,12,13,14] [5] [(4,vi a4),(5,.own 5 0),(12,vi 0),(13,vi (-1)),(14,vi (IntKind.wrap .i64 ((ex2 a0) - 1)))] [(5,25,qc4 a0)] (To.thenN (Wp.block ?_)))))))))
    obtain ⟨o25,ho25,h⟩:=bind_of h
    refine kw [4,5,12,13,14] [5] [(4,vi a4),(5,.own 5 0),(12,vi 0),(13,vi (-1)),(14,vi (IntKind.wrap .i64 ((ex2 a0) - 1)))] [(5,25,qc4 a0)] (Wp.loopL (ok_law36_ViewTells_l1 n a4 a0 n 0 (-1) (IntKind.wrap .i64 ((ex2 a0) - 1)) o25 ho25 (To.blockX (To.thenN (Wp.seq ?_)))))
    obtain ⟨r26,hr26,h⟩:=bind_of h
    refine rc [] 3 [4,5,12,13,15,16] [5,15] [(4,vi a4),(5,.own 5 0),(12,vi o25.1),(13,vi o25.2),(15,.own 15 0),(16,vb r26.2)] [(5,25,qc4 a0),(15,49,(E_api_Container r26.1))] (ok_view_Find n a0.f_Boxes a4 _ hr26) (To.thenN (Wp.seq (Wp.seq ?_)))
    obtain ⟨r27,hr27,h⟩:=bind_of h
    refine rc [] 3 [5,13,15,16,152] [5,15] [(5,.own 5 0),(13,vi o25.2),(15,.own 15 0),(16,vb r26.2),(152,vb (bif (r27 != o25.1) then true else (!(r26.2 == (decide (o25.2 ≥ 0))))))] [(5,25,qc4 a0),(15,49,(E_api_Container r26.1))] (ok_view_Count n a0.f_Boxes a4 _ hr27) (To.thenN (cn h (fun h=>?_) (fun h=>?_)))
    ·refine Wp.seq (rg [10] [] [(10,vb false)] [] (To.thenN (Wp.ret (To.thenR ?_))))
     cases h
     exact To.done hΓ (by kernel_rfl)
    ·refine Wp.skip (To.thenN (Wp.seq ?_))
     obtain ⟨hc30,h⟩:=chk_of h
     obtain ⟨hc31,h⟩:=chk_of h
     obtain ⟨r28,hr28,h⟩:=bind_of h
     obtain ⟨r29,hr29,h⟩:=bind_of h
     refine Wp.regionD hm hΓ [(4,rs2 [r26.1]),(11,vb r28),(14,vb r29)] [10] [] (K':=[(10,vb (bif (bif (!r26.2) then true else r28) then r29 else false))]) (L':=[]) (ob:=[(((!r26.2) == false) = true → MkOb 18 (qc5 r26.1) 1 (rs2 [r26.1]) ∧ GoodR (rs2 [r26.1])),(!((!r26.2) == false) || decide (0 ≤ (IntKind.wrap .i64 (o25.2 + 1)) ∧ (IntKind.wrap .i64 (o25.2 + 1)) ≤ (ex2 a0))) = true,(!((!r26.2) == false) || decide (0 ≤ o25.2 ∧ o25.2 ≤ (IntKind.wrap .i64 (o25.2 + 1)))) = true,(((!r26.2) == false) = true → CX Try.prog 14 [rs2 [r26.1],rs2 (List.take (Int.toNat (IntKind.wrap .i64 (o25.2 + 1)) - Int.toNat o25.2) (List.drop (Int.toNat o25.2) a0.f_Boxes))] (vb r28)),(((bif (!r26.2) then true else r28) == true) = true → CX Try.prog 8 [] (vb r29))]) (by kernel_rfl) (AllP.cons (fun _=>mkOb (by kernel_rfl) rfl (by kernel_rfl) (good_E_api_Container _)) (AllP.cons hc30 (AllP.cons hc31 (AllP.cons (fun hg=>cx (ok_law33_SameBoxes n [r26.1] (List.take (Int.toNat (IntKind.wrap .i64 (o25.2 + 1)) - Int.toNat o25.2) (List.drop (Int.toNat o25.2) a0.f_Boxes)) _ (if_t hg hr28))) (AllP.cons (fun hg=>cx (ok_law36_awake n  _ (if_t hg hr29))) AllP.nil))))) (To.thenN (Wp.ret ?_))
     cases h
     exact To.done hΓ (by kernel_rfl)
theorem opens_i64:Opens Try.prog 3 (fun n:Int=>IntKind.min .i64 ≤ n ∧ n ≤ IntKind.max .i64) (fun n=>[.val (.int .i64 n)]):=opens_int (by kernel_rfl)
theorem opens_string:Opens Try.prog 9 (fun l:List UInt8=>l.length ≤ maxLen) (fun l=>[.str l]):=opens_str (by kernel_rfl)
def W_Lstring (l:List (List UInt8)):Prop:=l.length ≤ maxLen ∧ ∀ x ∈ l,(List.length x ≤ maxLen)
theorem opens_Lstring:Opens Try.prog 27 W_Lstring (fun l=>[.recs (α:=List UInt8) [] E_string l]):=opens_slice (α:=List UInt8) (cells:=E_string) [] (by kernel_rfl) (by kernel_rfl) (of_decide_eq_true (by kernel_rfl)) opens_string
def W_api_Check (x:S_api_Check):Prop:=(List.length x.f_Test ≤ maxLen) ∧ (IntKind.min .i64 ≤ x.f_Every ∧ x.f_Every ≤ IntKind.max .i64) ∧ (IntKind.min .i64 ≤ x.f_Start ∧ x.f_Start ≤ IntKind.max .i64) ∧ (IntKind.min .i64 ≤ x.f_Retries ∧ x.f_Retries ≤ IntKind.max .i64)
theorem opens_api_Check:Opens Try.prog 39 W_api_Check (fun x=>[.str x.f_Test,.val (.int .i64 x.f_Every),.val (.int .i64 x.f_Start),.val (.int .i64 x.f_Retries)]):=by
 intro H enc W fuel cs d ps h
 obtain ⟨hl,hf⟩:=field_of Try.underlying39 h
 have hl:cs.length = 4:=hl.trans (by kernel_rfl)
 obtain ⟨x0,w0,r0⟩:=hf 0 _ rfl opens_string
 have r0:=repAt (a':=0) (b':=1) r0 (by kernel_rfl) (by kernel_rfl)
 obtain ⟨x1,w1,r1⟩:=hf 1 _ rfl opens_i64
 have r1:=repAt (a':=1) (b':=1) r1 (by kernel_rfl) (by kernel_rfl)
 obtain ⟨x2,w2,r2⟩:=hf 2 _ rfl opens_i64
 have r2:=repAt (a':=2) (b':=1) r2 (by kernel_rfl) (by kernel_rfl)
 obtain ⟨x3,w3,r3⟩:=hf 3 _ rfl opens_i64
 have r3:=repAt (a':=3) (b':=1) r3 (by kernel_rfl) (by kernel_rfl)
 refine ⟨⟨x0,x1,x2,x3⟩,⟨w0,w1,w2,w3⟩,?_⟩
 refine parts_all (l:=[([.str x0],1),([.val (.int .i64 x1)],1),([.val (.int .i64 x2)],1),([.val (.int .i64 x3)],1)]) ⟨r0,r1,r2,r3,Nat.le_of_eq hl⟩ rfl
def W_api_Spec (x:S_api_Spec):Prop:=(List.length x.f_Name ≤ maxLen) ∧ (List.length x.f_Project ≤ maxLen) ∧ (List.length x.f_Service ≤ maxLen) ∧ (IntKind.min .i64 ≤ x.f_Number ∧ x.f_Number ≤ IntKind.max .i64) ∧ (List.length x.f_Hash ≤ maxLen) ∧ (W_Lstring x.f_Nets) ∧ (W_Lstring x.f_Vols) ∧ (W_api_Check x.f_Health) ∧ (IntKind.min .i64 ≤ x.f_Restart ∧ x.f_Restart ≤ IntKind.max .i64) ∧ (IntKind.min .i64 ≤ x.f_Tries ∧ x.f_Tries ≤ IntKind.max .i64)
theorem opens_api_Spec:Opens Try.prog 47 W_api_Spec (fun x=>[.str x.f_Name,.str x.f_Project,.str x.f_Service,.val (.int .i64 x.f_Number),.str x.f_Hash,.recs (α:=List UInt8) [] E_string x.f_Nets,.recs (α:=List UInt8) [] E_string x.f_Vols,.str x.f_Health.f_Test,.val (.int .i64 x.f_Health.f_Every),.val (.int .i64 x.f_Health.f_Start),.val (.int .i64 x.f_Health.f_Retries),.val (.int .i64 x.f_Restart),.val (.int .i64 x.f_Tries)]):=by
 intro H enc W fuel cs d ps h
 obtain ⟨hl,hf⟩:=field_of Try.underlying47 h
 have hl:cs.length = 13:=hl.trans (by kernel_rfl)
 obtain ⟨x0,w0,r0⟩:=hf 0 _ rfl opens_string
 have r0:=repAt (a':=0) (b':=1) r0 (by kernel_rfl) (by kernel_rfl)
 obtain ⟨x1,w1,r1⟩:=hf 1 _ rfl opens_string
 have r1:=repAt (a':=1) (b':=1) r1 (by kernel_rfl) (by kernel_rfl)
 obtain ⟨x2,w2,r2⟩:=hf 2 _ rfl opens_string
 have r2:=repAt (a':=2) (b':=1) r2 (by kernel_rfl) (by kernel_rfl)
 obtain ⟨x3,w3,r3⟩:=hf 3 _ rfl opens_i64
 have r3:=repAt (a':=3) (b':=1) r3 (by kernel_rfl) (by kernel_rfl)
 obtain ⟨x4,w4,r4⟩:=hf 4 _ rfl opens_string
 have r4:=repAt (a':=4) (b':=1) r4 (by kernel_rfl) (by kernel_rfl)
 obtain ⟨x5,w5,r5⟩:=hf 5 _ rfl opens_Lstring
 have r5:=repAt (a':=5) (b':=1) r5 (by kernel_rfl) (by kernel_rfl)
 obtain ⟨x6,w6,r6⟩:=hf 6 _ rfl opens_Lstring
 have r6:=repAt (a':=6) (b':=1) r6 (by kernel_rfl) (by kernel_rfl)
 obtain ⟨x7,w7,r7⟩:=hf 7 _ rfl opens_api_Check
 have r7:=repAt (a':=7) (b':=4) r7 (by kernel_rfl) (by kernel_rfl)
 obtain ⟨x8,w8,r8⟩:=hf 8 _ rfl opens_i64
 have r8:=repAt (a':=11) (b':=1) r8 (by kernel_rfl) (by kernel_rfl)
 obtain ⟨x9,w9,r9⟩:=hf 9 _ rfl opens_i64
 have r9:=repAt (a':=12) (b':=1) r9 (by kernel_rfl) (by kernel_rfl)
 refine ⟨⟨x0,x1,x2,x3,x4,x5,x6,x7,x8,x9⟩,⟨w0,w1,w2,w3,w4,w5,w6,w7,w8,w9⟩,?_⟩
 refine parts_all (l:=[([.str x0],1),([.str x1],1),([.str x2],1),([.val (.int .i64 x3)],1),([.str x4],1),([.recs (α:=List UInt8) [] E_string x5],1),([.recs (α:=List UInt8) [] E_string x6],1),([.str x7.f_Test,.val (.int .i64 x7.f_Every),.val (.int .i64 x7.f_Start),.val (.int .i64 x7.f_Retries)],4),([.val (.int .i64 x8)],1),([.val (.int .i64 x9)],1)]) ⟨r0,r1,r2,r3,r4,r5,r6,r7,r8,r9,Nat.le_of_eq hl⟩ rfl
def W_api_Container (x:S_api_Container):Prop:=(IntKind.min .i64 ≤ x.f_Id ∧ x.f_Id ≤ IntKind.max .i64) ∧ (W_api_Spec x.f_Spec) ∧ (IntKind.min .i64 ≤ x.f_State ∧ x.f_State ≤ IntKind.max .i64) ∧ (IntKind.min .i64 ≤ x.f_Code ∧ x.f_Code ≤ IntKind.max .i64) ∧ (IntKind.min .i64 ≤ x.f_Health ∧ x.f_Health ≤ IntKind.max .i64) ∧ (IntKind.min .i64 ≤ x.f_Runs ∧ x.f_Runs ≤ IntKind.max .i64)
theorem opens_api_Container:Opens Try.prog 49 W_api_Container (fun x=>[.val (.int .i64 x.f_Id),.str x.f_Spec.f_Name,.str x.f_Spec.f_Project,.str x.f_Spec.f_Service,.val (.int .i64 x.f_Spec.f_Number),.str x.f_Spec.f_Hash,.recs (α:=List UInt8) [] E_string x.f_Spec.f_Nets,.recs (α:=List UInt8) [] E_string x.f_Spec.f_Vols,.str x.f_Spec.f_Health.f_Test,.val (.int .i64 x.f_Spec.f_Health.f_Every),.val (.int .i64 x.f_Spec.f_Health.f_Start),.val (.int .i64 x.f_Spec.f_Health.f_Retries),.val (.int .i64 x.f_Spec.f_Restart),.val (.int .i64 x.f_Spec.f_Tries),.val (.int .i64 x.f_State),.val (.int .i64 x.f_Code),.val (.int .i64 x.f_Health),.val (.int .i64 x.f_Runs)]):=by
 intro H enc W fuel cs d ps h
 obtain ⟨hl,hf⟩:=field_of Try.underlying49 h
 have hl:cs.length = 18:=hl.trans (by kernel_rfl)
 obtain ⟨x0,w0,r0⟩:=hf 0 _ rfl opens_i64
 have r0:=repAt (a':=0) (b':=1) r0 (by kernel_rfl) (by kernel_rfl)
 obtain ⟨x1,w1,r1⟩:=hf 1 _ rfl opens_api_Spec
 have r1:=repAt (a':=1) (b':=13) r1 (by kernel_rfl) (by kernel_rfl)
 obtain ⟨x2,w2,r2⟩:=hf 2 _ rfl opens_i64
 have r2:=repAt (a':=14) (b':=1) r2 (by kernel_rfl) (by kernel_rfl)
 obtain ⟨x3,w3,r3⟩:=hf 3 _ rfl opens_i64
 have r3:=repAt (a':=15) (b':=1) r3 (by kernel_rfl) (by kernel_rfl)
 obtain ⟨x4,w4,r4⟩:=hf 4 _ rfl opens_i64
 have r4:=repAt (a':=16) (b':=1) r4 (by kernel_rfl) (by kernel_rfl)
 obtain ⟨x5,w5,r5⟩:=hf 5 _ rfl opens_i64
 have r5:=repAt (a':=17) (b':=1) r5 (by kernel_rfl) (by kernel_rfl)
 refine ⟨⟨x0,x1,x2,x3,x4,x5⟩,⟨w0,w1,w2,w3,w4,w5⟩,?_⟩
 refine parts_all (l:=[([.val (.int .i64 x0)],1),([.str x1.f_Name,.str x1.f_Project,.str x1.f_Service,.val (.int .i64 x1.f_Number),.str x1.f_Hash,.recs (α:=List UInt8) [] E_string x1.f_Nets,.recs (α:=List UInt8) [] E_string x1.f_Vols,.str x1.f_Health.f_Test,.val (.int .i64 x1.f_Health.f_Every),.val (.int .i64 x1.f_Health.f_Start),.val (.int .i64 x1.f_Health.f_Retries),.val (.int .i64 x1.f_Restart),.val (.int .i64 x1.f_Tries)],13),([.val (.int .i64 x2)],1),([.val (.int .i64 x3)],1),([.val (.int .i64 x4)],1),([.val (.int .i64 x5)],1)]) ⟨r0,r1,r2,r3,r4,r5,Nat.le_of_eq hl⟩ rfl
def W_Lapi_Container (l:List (S_api_Container)):Prop:=l.length ≤ maxLen ∧ ∀ x ∈ l,(W_api_Container x)
theorem opens_Lapi_Container:Opens Try.prog 22 W_Lapi_Container (fun l=>[.recs (α:=S_api_Container) Z_api_Container E_api_Container l]):=opens_slice (α:=S_api_Container) (cells:=E_api_Container) Z_api_Container (by kernel_rfl) (by kernel_rfl) (of_decide_eq_true (by kernel_rfl)) opens_api_Container
def W_api_Kept (x:S_api_Kept):Prop:=(List.length x.f_Name ≤ maxLen) ∧ (List.length x.f_Project ≤ maxLen)
theorem opens_api_Kept:Opens Try.prog 78 W_api_Kept (fun x=>[.str x.f_Name,.str x.f_Project]):=by
 intro H enc W fuel cs d ps h
 obtain ⟨hl,hf⟩:=field_of Try.underlying78 h
 have hl:cs.length = 2:=hl.trans (by kernel_rfl)
 obtain ⟨x0,w0,r0⟩:=hf 0 _ rfl opens_string
 have r0:=repAt (a':=0) (b':=1) r0 (by kernel_rfl) (by kernel_rfl)
 obtain ⟨x1,w1,r1⟩:=hf 1 _ rfl opens_string
 have r1:=repAt (a':=1) (b':=1) r1 (by kernel_rfl) (by kernel_rfl)
 refine ⟨⟨x0,x1⟩,⟨w0,w1⟩,?_⟩
 refine parts_all (l:=[([.str x0],1),([.str x1],1)]) ⟨r0,r1,Nat.le_of_eq hl⟩ rfl
def W_Lapi_Kept (l:List (S_api_Kept)):Prop:=l.length ≤ maxLen ∧ ∀ x ∈ l,(W_api_Kept x)
theorem opens_Lapi_Kept:Opens Try.prog 23 W_Lapi_Kept (fun l=>[.recs (α:=S_api_Kept) (S_api_Kept.mk [] []) E_api_Kept l]):=opens_slice (α:=S_api_Kept) (cells:=E_api_Kept) (S_api_Kept.mk [] []) (by kernel_rfl) (by kernel_rfl) (of_decide_eq_true (by kernel_rfl)) opens_api_Kept
def W_ref36_Seen (x:S_ref36_Seen):Prop:=(W_Lapi_Container x.f_Boxes) ∧ (W_Lapi_Kept x.f_Nets) ∧ (W_Lapi_Kept x.f_Vols)
theorem opens_ref36_Seen:Opens Try.prog 25 W_ref36_Seen (fun x=>[.recs (α:=S_api_Container) Z_api_Container E_api_Container x.f_Boxes,.recs (α:=S_api_Kept) (S_api_Kept.mk [] []) E_api_Kept x.f_Nets,.recs (α:=S_api_Kept) (S_api_Kept.mk [] []) E_api_Kept x.f_Vols]):=by
 intro H enc W fuel cs d ps h
 obtain ⟨hl,hf⟩:=field_of Try.underlying25 h
 have hl:cs.length = 3:=hl.trans (by kernel_rfl)
 obtain ⟨x0,w0,r0⟩:=hf 0 _ rfl opens_Lapi_Container
 have r0:=repAt (a':=0) (b':=1) r0 (by kernel_rfl) (by kernel_rfl)
 obtain ⟨x1,w1,r1⟩:=hf 1 _ rfl opens_Lapi_Kept
 have r1:=repAt (a':=1) (b':=1) r1 (by kernel_rfl) (by kernel_rfl)
 obtain ⟨x2,w2,r2⟩:=hf 2 _ rfl opens_Lapi_Kept
 have r2:=repAt (a':=2) (b':=1) r2 (by kernel_rfl) (by kernel_rfl)
 refine ⟨⟨x0,x1,x2⟩,⟨w0,w1,w2⟩,?_⟩
 refine parts_all (l:=[([.recs (α:=S_api_Container) Z_api_Container E_api_Container x0],1),([.recs (α:=S_api_Kept) (S_api_Kept.mk [] []) E_api_Kept x1],1),([.recs (α:=S_api_Kept) (S_api_Kept.mk [] []) E_api_Kept x2],1)]) ⟨r0,r1,r2,Nat.le_of_eq hl⟩ rfl
def W_api_Var (x:S_api_Var):Prop:=(List.length x.f_Key ≤ maxLen) ∧ (List.length x.f_Val ≤ maxLen)
theorem opens_api_Var:Opens Try.prog 199 W_api_Var (fun x=>[.str x.f_Key,.str x.f_Val]):=by
 intro H enc W fuel cs d ps h
 obtain ⟨hl,hf⟩:=field_of Try.underlying199 h
 have hl:cs.length = 2:=hl.trans (by kernel_rfl)
 obtain ⟨x0,w0,r0⟩:=hf 0 _ rfl opens_string
 have r0:=repAt (a':=0) (b':=1) r0 (by kernel_rfl) (by kernel_rfl)
 obtain ⟨x1,w1,r1⟩:=hf 1 _ rfl opens_string
 have r1:=repAt (a':=1) (b':=1) r1 (by kernel_rfl) (by kernel_rfl)
 refine ⟨⟨x0,x1⟩,⟨w0,w1⟩,?_⟩
 refine parts_all (l:=[([.str x0],1),([.str x1],1)]) ⟨r0,r1,Nat.le_of_eq hl⟩ rfl
def W_Lapi_Var (l:List (S_api_Var)):Prop:=l.length ≤ maxLen ∧ ∀ x ∈ l,(W_api_Var x)
theorem opens_Lapi_Var:Opens Try.prog 34 W_Lapi_Var (fun l=>[.recs (α:=S_api_Var) (S_api_Var.mk [] []) E_api_Var l]):=opens_slice (α:=S_api_Var) (cells:=E_api_Var) (S_api_Var.mk [] []) (by kernel_rfl) (by kernel_rfl) (of_decide_eq_true (by kernel_rfl)) opens_api_Var
def W_api_Port (x:S_api_Port):Prop:=(List.length x.f_Host ≤ maxLen) ∧ (IntKind.min .i64 ≤ x.f_Out ∧ x.f_Out ≤ IntKind.max .i64) ∧ (IntKind.min .i64 ≤ x.f_In ∧ x.f_In ≤ IntKind.max .i64) ∧ (List.length x.f_Proto ≤ maxLen)
theorem opens_api_Port:Opens Try.prog 201 W_api_Port (fun x=>[.str x.f_Host,.val (.int .i64 x.f_Out),.val (.int .i64 x.f_In),.str x.f_Proto]):=by
 intro H enc W fuel cs d ps h
 obtain ⟨hl,hf⟩:=field_of Try.underlying201 h
 have hl:cs.length = 4:=hl.trans (by kernel_rfl)
 obtain ⟨x0,w0,r0⟩:=hf 0 _ rfl opens_string
 have r0:=repAt (a':=0) (b':=1) r0 (by kernel_rfl) (by kernel_rfl)
 obtain ⟨x1,w1,r1⟩:=hf 1 _ rfl opens_i64
 have r1:=repAt (a':=1) (b':=1) r1 (by kernel_rfl) (by kernel_rfl)
 obtain ⟨x2,w2,r2⟩:=hf 2 _ rfl opens_i64
 have r2:=repAt (a':=2) (b':=1) r2 (by kernel_rfl) (by kernel_rfl)
 obtain ⟨x3,w3,r3⟩:=hf 3 _ rfl opens_string
 have r3:=repAt (a':=3) (b':=1) r3 (by kernel_rfl) (by kernel_rfl)
 refine ⟨⟨x0,x1,x2,x3⟩,⟨w0,w1,w2,w3⟩,?_⟩
 refine parts_all (l:=[([.str x0],1),([.val (.int .i64 x1)],1),([.val (.int .i64 x2)],1),([.str x3],1)]) ⟨r0,r1,r2,r3,Nat.le_of_eq hl⟩ rfl
def W_Lapi_Port (l:List (S_api_Port)):Prop:=l.length ≤ maxLen ∧ ∀ x ∈ l,(W_api_Port x)
theorem opens_Lapi_Port:Opens Try.prog 35 W_Lapi_Port (fun l=>[.recs (α:=S_api_Port) (S_api_Port.mk [] 0 0 []) E_api_Port l]):=opens_slice (α:=S_api_Port) (cells:=E_api_Port) (S_api_Port.mk [] 0 0 []) (by kernel_rfl) (by kernel_rfl) (of_decide_eq_true (by kernel_rfl)) opens_api_Port
theorem opens_bool:Opens Try.prog 4 (fun _:Bool=>True) (fun b=>[.val (.bool b)]):=RX.opens_bool (by kernel_rfl)
def W_api_Mount (x:S_api_Mount):Prop:=(List.length x.f_Source ≤ maxLen) ∧ (List.length x.f_Target ≤ maxLen) ∧ True
theorem opens_api_Mount:Opens Try.prog 203 W_api_Mount (fun x=>[.str x.f_Source,.str x.f_Target,.val (.bool x.f_ReadOnly)]):=by
 intro H enc W fuel cs d ps h
 obtain ⟨hl,hf⟩:=field_of Try.underlying203 h
 have hl:cs.length = 3:=hl.trans (by kernel_rfl)
 obtain ⟨x0,w0,r0⟩:=hf 0 _ rfl opens_string
 have r0:=repAt (a':=0) (b':=1) r0 (by kernel_rfl) (by kernel_rfl)
 obtain ⟨x1,w1,r1⟩:=hf 1 _ rfl opens_string
 have r1:=repAt (a':=1) (b':=1) r1 (by kernel_rfl) (by kernel_rfl)
 obtain ⟨x2,w2,r2⟩:=hf 2 _ rfl opens_bool
 have r2:=repAt (a':=2) (b':=1) r2 (by kernel_rfl) (by kernel_rfl)
 refine ⟨⟨x0,x1,x2⟩,⟨w0,w1,w2⟩,?_⟩
 refine parts_all (l:=[([.str x0],1),([.str x1],1),([.val (.bool x2)],1)]) ⟨r0,r1,r2,Nat.le_of_eq hl⟩ rfl
def W_Lapi_Mount (l:List (S_api_Mount)):Prop:=l.length ≤ maxLen ∧ ∀ x ∈ l,(W_api_Mount x)
theorem opens_Lapi_Mount:Opens Try.prog 36 W_Lapi_Mount (fun l=>[.recs (α:=S_api_Mount) (S_api_Mount.mk [] [] false) E_api_Mount l]):=opens_slice (α:=S_api_Mount) (cells:=E_api_Mount) (S_api_Mount.mk [] [] false) (by kernel_rfl) (by kernel_rfl) (of_decide_eq_true (by kernel_rfl)) opens_api_Mount
def W_api_Dep (x:S_api_Dep):Prop:=(List.length x.f_Service ≤ maxLen) ∧ (IntKind.min .i64 ≤ x.f_Cond ∧ x.f_Cond ≤ IntKind.max .i64) ∧ True ∧ True
theorem opens_api_Dep:Opens Try.prog 205 W_api_Dep (fun x=>[.str x.f_Service,.val (.int .i64 x.f_Cond),.val (.bool x.f_Restart),.val (.bool x.f_Required)]):=by
 intro H enc W fuel cs d ps h
 obtain ⟨hl,hf⟩:=field_of Try.underlying205 h
 have hl:cs.length = 4:=hl.trans (by kernel_rfl)
 obtain ⟨x0,w0,r0⟩:=hf 0 _ rfl opens_string
 have r0:=repAt (a':=0) (b':=1) r0 (by kernel_rfl) (by kernel_rfl)
 obtain ⟨x1,w1,r1⟩:=hf 1 _ rfl opens_i64
 have r1:=repAt (a':=1) (b':=1) r1 (by kernel_rfl) (by kernel_rfl)
 obtain ⟨x2,w2,r2⟩:=hf 2 _ rfl opens_bool
 have r2:=repAt (a':=2) (b':=1) r2 (by kernel_rfl) (by kernel_rfl)
 obtain ⟨x3,w3,r3⟩:=hf 3 _ rfl opens_bool
 have r3:=repAt (a':=3) (b':=1) r3 (by kernel_rfl) (by kernel_rfl)
 refine ⟨⟨x0,x1,x2,x3⟩,⟨w0,w1,w2,w3⟩,?_⟩
 refine parts_all (l:=[([.str x0],1),([.val (.int .i64 x1)],1),([.val (.bool x2)],1),([.val (.bool x3)],1)]) ⟨r0,r1,r2,r3,Nat.le_of_eq hl⟩ rfl
def W_Lapi_Dep (l:List (S_api_Dep)):Prop:=l.length ≤ maxLen ∧ ∀ x ∈ l,(W_api_Dep x)
theorem opens_Lapi_Dep:Opens Try.prog 37 W_Lapi_Dep (fun l=>[.recs (α:=S_api_Dep) (S_api_Dep.mk [] 0 false false) E_api_Dep l]):=opens_slice (α:=S_api_Dep) (cells:=E_api_Dep) (S_api_Dep.mk [] 0 false false) (by kernel_rfl) (by kernel_rfl) (of_decide_eq_true (by kernel_rfl)) opens_api_Dep
def W_api_Service (x:S_api_Service):Prop:=(List.length x.f_Name ≤ maxLen) ∧ (List.length x.f_Image ≤ maxLen) ∧ (W_Lstring x.f_Command) ∧ (W_Lapi_Var x.f_Env) ∧ (W_Lapi_Var x.f_Labels) ∧ (W_Lapi_Port x.f_Ports) ∧ (W_Lapi_Mount x.f_Mounts) ∧ (W_Lstring x.f_Nets) ∧ (W_Lapi_Dep x.f_Deps) ∧ (IntKind.min .i64 ≤ x.f_Replicas ∧ x.f_Replicas ≤ IntKind.max .i64) ∧ (W_api_Check x.f_Health) ∧ (IntKind.min .i64 ≤ x.f_Restart ∧ x.f_Restart ≤ IntKind.max .i64) ∧ (IntKind.min .i64 ≤ x.f_Tries ∧ x.f_Tries ≤ IntKind.max .i64) ∧ (IntKind.min .i64 ≤ x.f_Cpus ∧ x.f_Cpus ≤ IntKind.max .i64) ∧ (IntKind.min .i64 ≤ x.f_Mem ∧ x.f_Mem ≤ IntKind.max .i64)
theorem opens_api_Service:Opens Try.prog 41 W_api_Service (fun x=>[.str x.f_Name,.str x.f_Image,.recs (α:=List UInt8) [] E_string x.f_Command,.recs (α:=S_api_Var) (S_api_Var.mk [] []) E_api_Var x.f_Env,.recs (α:=S_api_Var) (S_api_Var.mk [] []) E_api_Var x.f_Labels,.recs (α:=S_api_Port) (S_api_Port.mk [] 0 0 []) E_api_Port x.f_Ports,.recs (α:=S_api_Mount) (S_api_Mount.mk [] [] false) E_api_Mount x.f_Mounts,.recs (α:=List UInt8) [] E_string x.f_Nets,.recs (α:=S_api_Dep) (S_api_Dep.mk [] 0 false false) E_api_Dep x.f_Deps,.val (.int .i64 x.f_Replicas),.str x.f_Health.f_Test,.val (.int .i64 x.f_Health.f_Every),.val (.int .i64 x.f_Health.f_Start),.val (.int .i64 x.f_Health.f_Retries),.val (.int .i64 x.f_Restart),.val (.int .i64 x.f_Tries),.val (.int .i64 x.f_Cpus),.val (.int .i64 x.f_Mem)]):=by
 intro H enc W fuel cs d ps h
 obtain ⟨hl,hf⟩:=field_of Try.underlying41 h
 have hl:cs.length = 18:=hl.trans (by kernel_rfl)
 obtain ⟨x0,w0,r0⟩:=hf 0 _ rfl opens_string
 have r0:=repAt (a':=0) (b':=1) r0 (by kernel_rfl) (by kernel_rfl)
 obtain ⟨x1,w1,r1⟩:=hf 1 _ rfl opens_string
 have r1:=repAt (a':=1) (b':=1) r1 (by kernel_rfl) (by kernel_rfl)
 obtain ⟨x2,w2,r2⟩:=hf 2 _ rfl opens_Lstring
 have r2:=repAt (a':=2) (b':=1) r2 (by kernel_rfl) (by kernel_rfl)
 obtain ⟨x3,w3,r3⟩:=hf 3 _ rfl opens_Lapi_Var
 have r3:=repAt (a':=3) (b':=1) r3 (by kernel_rfl) (by kernel_rfl)
 obtain ⟨x4,w4,r4⟩:=hf 4 _ rfl opens_Lapi_Var
 have r4:=repAt (a':=4) (b':=1) r4 (by kernel_rfl) (by kernel_rfl)
 obtain ⟨x5,w5,r5⟩:=hf 5 _ rfl opens_Lapi_Port
 have r5:=repAt (a':=5) (b':=1) r5 (by kernel_rfl) (by kernel_rfl)
 obtain ⟨x6,w6,r6⟩:=hf 6 _ rfl opens_Lapi_Mount
 have r6:=repAt (a':=6) (b':=1) r6 (by kernel_rfl) (by kernel_rfl)
 obtain ⟨x7,w7,r7⟩:=hf 7 _ rfl opens_Lstring
 have r7:=repAt (a':=7) (b':=1) r7 (by kernel_rfl) (by kernel_rfl)
 obtain ⟨x8,w8,r8⟩:=hf 8 _ rfl opens_Lapi_Dep
 have r8:=repAt (a':=8) (b':=1) r8 (by kernel_rfl) (by kernel_rfl)
 obtain ⟨x9,w9,r9⟩:=hf 9 _ rfl opens_i64
 have r9:=repAt (a':=9) (b':=1) r9 (by kernel_rfl) (by kernel_rfl)
 obtain ⟨x10,w10,r10⟩:=hf 10 _ rfl opens_api_Check
 have r10:=repAt (a':=10) (b':=4) r10 (by kernel_rfl) (by kernel_rfl)
 obtain ⟨x11,w11,r11⟩:=hf 11 _ rfl opens_i64
 have r11:=repAt (a':=14) (b':=1) r11 (by kernel_rfl) (by kernel_rfl)
 obtain ⟨x12,w12,r12⟩:=hf 12 _ rfl opens_i64
 have r12:=repAt (a':=15) (b':=1) r12 (by kernel_rfl) (by kernel_rfl)
 obtain ⟨x13,w13,r13⟩:=hf 13 _ rfl opens_i64
 have r13:=repAt (a':=16) (b':=1) r13 (by kernel_rfl) (by kernel_rfl)
 obtain ⟨x14,w14,r14⟩:=hf 14 _ rfl opens_i64
 have r14:=repAt (a':=17) (b':=1) r14 (by kernel_rfl) (by kernel_rfl)
 refine ⟨⟨x0,x1,x2,x3,x4,x5,x6,x7,x8,x9,x10,x11,x12,x13,x14⟩,⟨w0,w1,w2,w3,w4,w5,w6,w7,w8,w9,w10,w11,w12,w13,w14⟩,?_⟩
 refine parts_all (l:=[([.str x0],1),([.str x1],1),([.recs (α:=List UInt8) [] E_string x2],1),([.recs (α:=S_api_Var) (S_api_Var.mk [] []) E_api_Var x3],1),([.recs (α:=S_api_Var) (S_api_Var.mk [] []) E_api_Var x4],1),([.recs (α:=S_api_Port) (S_api_Port.mk [] 0 0 []) E_api_Port x5],1),([.recs (α:=S_api_Mount) (S_api_Mount.mk [] [] false) E_api_Mount x6],1),([.recs (α:=List UInt8) [] E_string x7],1),([.recs (α:=S_api_Dep) (S_api_Dep.mk [] 0 false false) E_api_Dep x8],1),([.val (.int .i64 x9)],1),([.str x10.f_Test,.val (.int .i64 x10.f_Every),.val (.int .i64 x10.f_Start),.val (.int .i64 x10.f_Retries)],4),([.val (.int .i64 x11)],1),([.val (.int .i64 x12)],1),([.val (.int .i64 x13)],1),([.val (.int .i64 x14)],1)]) ⟨r0,r1,r2,r3,r4,r5,r6,r7,r8,r9,r10,r11,r12,r13,r14,Nat.le_of_eq hl⟩ rfl
def W_Lapi_Service (l:List (S_api_Service)):Prop:=l.length ≤ maxLen ∧ ∀ x ∈ l,(W_api_Service x)
theorem opens_Lapi_Service:Opens Try.prog 26 W_Lapi_Service (fun l=>[.recs (α:=S_api_Service) Z_api_Service E_api_Service l]):=opens_slice (α:=S_api_Service) (cells:=E_api_Service) Z_api_Service (by kernel_rfl) (by kernel_rfl) (of_decide_eq_true (by kernel_rfl)) opens_api_Service
def W_api_Project (x:S_api_Project):Prop:=(List.length x.f_Name ≤ maxLen) ∧ (W_Lapi_Service x.f_Services) ∧ (W_Lstring x.f_Nets) ∧ (W_Lstring x.f_Vols)
theorem opens_api_Project:Opens Try.prog 29 W_api_Project (fun x=>[.str x.f_Name,.recs (α:=S_api_Service) Z_api_Service E_api_Service x.f_Services,.recs (α:=List UInt8) [] E_string x.f_Nets,.recs (α:=List UInt8) [] E_string x.f_Vols]):=by
 intro H enc W fuel cs d ps h
 obtain ⟨hl,hf⟩:=field_of Try.underlying29 h
 have hl:cs.length = 4:=hl.trans (by kernel_rfl)
 obtain ⟨x0,w0,r0⟩:=hf 0 _ rfl opens_string
 have r0:=repAt (a':=0) (b':=1) r0 (by kernel_rfl) (by kernel_rfl)
 obtain ⟨x1,w1,r1⟩:=hf 1 _ rfl opens_Lapi_Service
 have r1:=repAt (a':=1) (b':=1) r1 (by kernel_rfl) (by kernel_rfl)
 obtain ⟨x2,w2,r2⟩:=hf 2 _ rfl opens_Lstring
 have r2:=repAt (a':=2) (b':=1) r2 (by kernel_rfl) (by kernel_rfl)
 obtain ⟨x3,w3,r3⟩:=hf 3 _ rfl opens_Lstring
 have r3:=repAt (a':=3) (b':=1) r3 (by kernel_rfl) (by kernel_rfl)
 refine ⟨⟨x0,x1,x2,x3⟩,⟨w0,w1,w2,w3⟩,?_⟩
 refine parts_all (l:=[([.str x0],1),([.recs (α:=S_api_Service) Z_api_Service E_api_Service x1],1),([.recs (α:=List UInt8) [] E_string x2],1),([.recs (α:=List UInt8) [] E_string x3],1)]) ⟨r0,r1,r2,r3,Nat.le_of_eq hl⟩ rfl
end Go.Proofs.Ytaecmkldkljioaa.M
