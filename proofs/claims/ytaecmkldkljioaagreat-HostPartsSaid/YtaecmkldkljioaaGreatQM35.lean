import Derived.Test.YtaecmkldkljioaaGreatQM35k
set_option linter.all false
namespace Go.Proofs.YtaecmkldkljioaaGreat.M
open Go.RowKit Go.Proofs.YtaecmkldkljioaaGreat.RX
set_option maxRecDepth 100000
theorem opens_i64:Opens Tryz.prog 3 (fun n:Int=>IntKind.min .i64 ≤ n ∧ n ≤ IntKind.max .i64) (fun n=>[.val (.int .i64 n)]):=opens_int (by kernel_rfl)
theorem opens_string:Opens Tryz.prog 9 (fun l:List UInt8=>l.length ≤ maxLen) (fun l=>[.str l]):=opens_str (by kernel_rfl)
def W_Lstring (l:List (List UInt8)):Prop:=l.length ≤ maxLen ∧ ∀ x ∈ l,(List.length x ≤ maxLen)
theorem opens_Lstring:Opens Tryz.prog 34 W_Lstring (fun l=>[.recs (α:=List UInt8) [] E_string l]):=opens_slice (α:=List UInt8) (cells:=E_string) [] (by kernel_rfl) (by kernel_rfl) (of_decide_eq_true (by kernel_rfl)) opens_string
def W_api_Check (x:S_api_Check):Prop:=(List.length x.f_Test ≤ maxLen) ∧ (IntKind.min .i64 ≤ x.f_Every ∧ x.f_Every ≤ IntKind.max .i64) ∧ (IntKind.min .i64 ≤ x.f_Start ∧ x.f_Start ≤ IntKind.max .i64) ∧ (IntKind.min .i64 ≤ x.f_Retries ∧ x.f_Retries ≤ IntKind.max .i64)
theorem opens_api_Check:Opens Tryz.prog 36 W_api_Check (fun x=>[.str x.f_Test,.val (.int .i64 x.f_Every),.val (.int .i64 x.f_Start),.val (.int .i64 x.f_Retries)]):=by
 intro H enc W fuel cs d ps h
 obtain ⟨hl,hf⟩:=field_of Tryz.underlying36 h
 have hl:cs.length = 4:=hl.trans (by kernel_rfl)
 obtain ⟨x0,w0,r0⟩:=hf 0 _ rfl opens_string
 have r0:=repAt (a':=0) (b':=1) r0 (by kernel_rfl) (by kernel_rfl)
 obtain ⟨x1,w1,r1⟩:=hf 1 _ rfl opens_i64
 have r1:=repAt (a':=1) (b':=1) r1 (by kernel_rfl) (by kernel_rfl)
 obtain ⟨x2,w2,r2⟩:=hf 2 _ rfl opens_i64
 have r2:=repAt (a':=2) (b':=1) r2 (by kernel_rfl) (by kernel_rfl)
 obtain ⟨x3,w3,r3⟩:=hf 3 _ rfl opens_i64
 have r3:=repAt (a':=3) (b':=1) r3 (by kernel_rfl) (by kernel_rfl)
 refine ⟨⟨x0,x1,x2,x3⟩,⟨w0,w1,w2,w3⟩,?_⟩
 refine parts_all (l:=[([.str x0],1),([.val (.int .i64 x1)],1),([.val (.int .i64 x2)],1),([.val (.int .i64 x3)],1)]) ⟨r0,r1,r2,r3,Nat.le_of_eq hl⟩ rfl
def W_api_Spec (x:S_api_Spec):Prop:=(List.length x.f_Name ≤ maxLen) ∧ (List.length x.f_Project ≤ maxLen) ∧ (List.length x.f_Service ≤ maxLen) ∧ (IntKind.min .i64 ≤ x.f_Number ∧ x.f_Number ≤ IntKind.max .i64) ∧ (List.length x.f_Hash ≤ maxLen) ∧ (W_Lstring x.f_Nets) ∧ (W_Lstring x.f_Vols) ∧ (W_api_Check x.f_Health) ∧ (IntKind.min .i64 ≤ x.f_Restart ∧ x.f_Restart ≤ IntKind.max .i64) ∧ (IntKind.min .i64 ≤ x.f_Tries ∧ x.f_Tries ≤ IntKind.max .i64)
theorem opens_api_Spec:Opens Tryz.prog 38 W_api_Spec (fun x=>[.str x.f_Name,.str x.f_Project,.str x.f_Service,.val (.int .i64 x.f_Number),.str x.f_Hash,.recs (α:=List UInt8) [] E_string x.f_Nets,.recs (α:=List UInt8) [] E_string x.f_Vols,.str x.f_Health.f_Test,.val (.int .i64 x.f_Health.f_Every),.val (.int .i64 x.f_Health.f_Start),.val (.int .i64 x.f_Health.f_Retries),.val (.int .i64 x.f_Restart),.val (.int .i64 x.f_Tries)]):=by
 intro H enc W fuel cs d ps h
 obtain ⟨hl,hf⟩:=field_of Tryz.underlying38 h
 have hl:cs.length = 13:=hl.trans (by kernel_rfl)
 obtain ⟨x0,w0,r0⟩:=hf 0 _ rfl opens_string
 have r0:=repAt (a':=0) (b':=1) r0 (by kernel_rfl) (by kernel_rfl)
 obtain ⟨x1,w1,r1⟩:=hf 1 _ rfl opens_string
 have r1:=repAt (a':=1) (b':=1) r1 (by kernel_rfl) (by kernel_rfl)
 obtain ⟨x2,w2,r2⟩:=hf 2 _ rfl opens_string
 have r2:=repAt (a':=2) (b':=1) r2 (by kernel_rfl) (by kernel_rfl)
 obtain ⟨x3,w3,r3⟩:=hf 3 _ rfl opens_i64
 have r3:=repAt (a':=3) (b':=1) r3 (by kernel_rfl) (by kernel_rfl)
 obtain ⟨x4,w4,r4⟩:=hf 4 _ rfl opens_string
 have r4:=repAt (a':=4) (b':=1) r4 (by kernel_rfl) (by kernel_rfl)
 obtain ⟨x5,w5,r5⟩:=hf 5 _ rfl opens_Lstring
 have r5:=repAt (a':=5) (b':=1) r5 (by kernel_rfl) (by kernel_rfl)
 obtain ⟨x6,w6,r6⟩:=hf 6 _ rfl opens_Lstring
 have r6:=repAt (a':=6) (b':=1) r6 (by kernel_rfl) (by kernel_rfl)
 obtain ⟨x7,w7,r7⟩:=hf 7 _ rfl opens_api_Check
 have r7:=repAt (a':=7) (b':=4) r7 (by kernel_rfl) (by kernel_rfl)
 obtain ⟨x8,w8,r8⟩:=hf 8 _ rfl opens_i64
 have r8:=repAt (a':=11) (b':=1) r8 (by kernel_rfl) (by kernel_rfl)
 obtain ⟨x9,w9,r9⟩:=hf 9 _ rfl opens_i64
 have r9:=repAt (a':=12) (b':=1) r9 (by kernel_rfl) (by kernel_rfl)
 refine ⟨⟨x0,x1,x2,x3,x4,x5,x6,x7,x8,x9⟩,⟨w0,w1,w2,w3,w4,w5,w6,w7,w8,w9⟩,?_⟩
 refine parts_all (l:=[([.str x0],1),([.str x1],1),([.str x2],1),([.val (.int .i64 x3)],1),([.str x4],1),([.recs (α:=List UInt8) [] E_string x5],1),([.recs (α:=List UInt8) [] E_string x6],1),([.str x7.f_Test,.val (.int .i64 x7.f_Every),.val (.int .i64 x7.f_Start),.val (.int .i64 x7.f_Retries)],4),([.val (.int .i64 x8)],1),([.val (.int .i64 x9)],1)]) ⟨r0,r1,r2,r3,r4,r5,r6,r7,r8,r9,Nat.le_of_eq hl⟩ rfl
def W_api_Call (x:S_api_Call):Prop:=(IntKind.min .i64 ≤ x.f_Kind ∧ x.f_Kind ≤ IntKind.max .i64) ∧ (List.length x.f_Name ≤ maxLen) ∧ (IntKind.min .i64 ≤ x.f_Id ∧ x.f_Id ≤ IntKind.max .i64) ∧ (W_api_Spec x.f_Spec)
theorem opens_api_Call:Opens Tryz.prog 40 W_api_Call (fun x=>[.val (.int .i64 x.f_Kind),.str x.f_Name,.val (.int .i64 x.f_Id),.str x.f_Spec.f_Name,.str x.f_Spec.f_Project,.str x.f_Spec.f_Service,.val (.int .i64 x.f_Spec.f_Number),.str x.f_Spec.f_Hash,.recs (α:=List UInt8) [] E_string x.f_Spec.f_Nets,.recs (α:=List UInt8) [] E_string x.f_Spec.f_Vols,.str x.f_Spec.f_Health.f_Test,.val (.int .i64 x.f_Spec.f_Health.f_Every),.val (.int .i64 x.f_Spec.f_Health.f_Start),.val (.int .i64 x.f_Spec.f_Health.f_Retries),.val (.int .i64 x.f_Spec.f_Restart),.val (.int .i64 x.f_Spec.f_Tries)]):=by
 intro H enc W fuel cs d ps h
 obtain ⟨hl,hf⟩:=field_of Tryz.underlying40 h
 have hl:cs.length = 16:=hl.trans (by kernel_rfl)
 obtain ⟨x0,w0,r0⟩:=hf 0 _ rfl opens_i64
 have r0:=repAt (a':=0) (b':=1) r0 (by kernel_rfl) (by kernel_rfl)
 obtain ⟨x1,w1,r1⟩:=hf 1 _ rfl opens_string
 have r1:=repAt (a':=1) (b':=1) r1 (by kernel_rfl) (by kernel_rfl)
 obtain ⟨x2,w2,r2⟩:=hf 2 _ rfl opens_i64
 have r2:=repAt (a':=2) (b':=1) r2 (by kernel_rfl) (by kernel_rfl)
 obtain ⟨x3,w3,r3⟩:=hf 3 _ rfl opens_api_Spec
 have r3:=repAt (a':=3) (b':=13) r3 (by kernel_rfl) (by kernel_rfl)
 refine ⟨⟨x0,x1,x2,x3⟩,⟨w0,w1,w2,w3⟩,?_⟩
 refine parts_all (l:=[([.val (.int .i64 x0)],1),([.str x1],1),([.val (.int .i64 x2)],1),([.str x3.f_Name,.str x3.f_Project,.str x3.f_Service,.val (.int .i64 x3.f_Number),.str x3.f_Hash,.recs (α:=List UInt8) [] E_string x3.f_Nets,.recs (α:=List UInt8) [] E_string x3.f_Vols,.str x3.f_Health.f_Test,.val (.int .i64 x3.f_Health.f_Every),.val (.int .i64 x3.f_Health.f_Start),.val (.int .i64 x3.f_Health.f_Retries),.val (.int .i64 x3.f_Restart),.val (.int .i64 x3.f_Tries)],13)]) ⟨r0,r1,r2,r3,Nat.le_of_eq hl⟩ rfl
def W_ref34_Gap (x:S_fault_Gap):Prop:=(IntKind.min .i64 ≤ x.f_Skip ∧ x.f_Skip ≤ IntKind.max .i64) ∧ (IntKind.min .i64 ≤ x.f_Fail ∧ x.f_Fail ≤ IntKind.max .i64)
theorem opens_ref34_Gap:Opens Tryz.prog 136 W_ref34_Gap (fun x=>[.val (.int .i64 x.f_Skip),.val (.int .i64 x.f_Fail)]):=by
 intro H enc W fuel cs d ps h
 obtain ⟨hl,hf⟩:=field_of Tryz.underlying136 h
 have hl:cs.length = 2:=hl.trans (by kernel_rfl)
 obtain ⟨x0,w0,r0⟩:=hf 0 _ rfl opens_i64
 have r0:=repAt (a':=0) (b':=1) r0 (by kernel_rfl) (by kernel_rfl)
 obtain ⟨x1,w1,r1⟩:=hf 1 _ rfl opens_i64
 have r1:=repAt (a':=1) (b':=1) r1 (by kernel_rfl) (by kernel_rfl)
 refine ⟨⟨x0,x1⟩,⟨w0,w1⟩,?_⟩
 refine parts_all (l:=[([.val (.int .i64 x0)],1),([.val (.int .i64 x1)],1)]) ⟨r0,r1,Nat.le_of_eq hl⟩ rfl
def W_Lref34_Gap (l:List (S_fault_Gap)):Prop:=l.length ≤ maxLen ∧ ∀ x ∈ l,(W_ref34_Gap x)
theorem opens_Lref34_Gap:Opens Tryz.prog 59 W_Lref34_Gap (fun l=>[.recs (α:=S_fault_Gap) (S_fault_Gap.mk 0 0) E_ref34_Gap l]):=opens_slice (α:=S_fault_Gap) (cells:=E_ref34_Gap) (S_fault_Gap.mk 0 0) (by kernel_rfl) (by kernel_rfl) (of_decide_eq_true (by kernel_rfl)) opens_ref34_Gap
def W_law35_Deed (x:S_law35_Deed):Prop:=(IntKind.min .i64 ≤ x.f_Kind ∧ x.f_Kind ≤ IntKind.max .i64) ∧ (IntKind.min .i64 ≤ x.f_N ∧ x.f_N ≤ IntKind.max .i64) ∧ (IntKind.min .i64 ≤ x.f_M ∧ x.f_M ≤ IntKind.max .i64) ∧ (W_api_Call x.f_Call)
theorem opens_law35_Deed:Opens Tryz.prog 75 W_law35_Deed (fun x=>[.val (.int .i64 x.f_Kind),.val (.int .i64 x.f_N),.val (.int .i64 x.f_M),.val (.int .i64 x.f_Call.f_Kind),.str x.f_Call.f_Name,.val (.int .i64 x.f_Call.f_Id),.str x.f_Call.f_Spec.f_Name,.str x.f_Call.f_Spec.f_Project,.str x.f_Call.f_Spec.f_Service,.val (.int .i64 x.f_Call.f_Spec.f_Number),.str x.f_Call.f_Spec.f_Hash,.recs (α:=List UInt8) [] E_string x.f_Call.f_Spec.f_Nets,.recs (α:=List UInt8) [] E_string x.f_Call.f_Spec.f_Vols,.str x.f_Call.f_Spec.f_Health.f_Test,.val (.int .i64 x.f_Call.f_Spec.f_Health.f_Every),.val (.int .i64 x.f_Call.f_Spec.f_Health.f_Start),.val (.int .i64 x.f_Call.f_Spec.f_Health.f_Retries),.val (.int .i64 x.f_Call.f_Spec.f_Restart),.val (.int .i64 x.f_Call.f_Spec.f_Tries)]):=by
 intro H enc W fuel cs d ps h
 obtain ⟨hl,hf⟩:=field_of Tryz.underlying75 h
 have hl:cs.length = 19:=hl.trans (by kernel_rfl)
 obtain ⟨x0,w0,r0⟩:=hf 0 _ rfl opens_i64
 have r0:=repAt (a':=0) (b':=1) r0 (by kernel_rfl) (by kernel_rfl)
 obtain ⟨x1,w1,r1⟩:=hf 1 _ rfl opens_i64
 have r1:=repAt (a':=1) (b':=1) r1 (by kernel_rfl) (by kernel_rfl)
 obtain ⟨x2,w2,r2⟩:=hf 2 _ rfl opens_i64
 have r2:=repAt (a':=2) (b':=1) r2 (by kernel_rfl) (by kernel_rfl)
 obtain ⟨x3,w3,r3⟩:=hf 3 _ rfl opens_api_Call
 have r3:=repAt (a':=3) (b':=16) r3 (by kernel_rfl) (by kernel_rfl)
 refine ⟨⟨x0,x1,x2,x3⟩,⟨w0,w1,w2,w3⟩,?_⟩
 refine parts_all (l:=[([.val (.int .i64 x0)],1),([.val (.int .i64 x1)],1),([.val (.int .i64 x2)],1),([.val (.int .i64 x3.f_Kind),.str x3.f_Name,.val (.int .i64 x3.f_Id),.str x3.f_Spec.f_Name,.str x3.f_Spec.f_Project,.str x3.f_Spec.f_Service,.val (.int .i64 x3.f_Spec.f_Number),.str x3.f_Spec.f_Hash,.recs (α:=List UInt8) [] E_string x3.f_Spec.f_Nets,.recs (α:=List UInt8) [] E_string x3.f_Spec.f_Vols,.str x3.f_Spec.f_Health.f_Test,.val (.int .i64 x3.f_Spec.f_Health.f_Every),.val (.int .i64 x3.f_Spec.f_Health.f_Start),.val (.int .i64 x3.f_Spec.f_Health.f_Retries),.val (.int .i64 x3.f_Spec.f_Restart),.val (.int .i64 x3.f_Spec.f_Tries)],16)]) ⟨r0,r1,r2,r3,Nat.le_of_eq hl⟩ rfl
def W_Llaw35_Deed (l:List (S_law35_Deed)):Prop:=l.length ≤ maxLen ∧ ∀ x ∈ l,(W_law35_Deed x)
theorem opens_Llaw35_Deed:Opens Tryz.prog 72 W_Llaw35_Deed (fun l=>[.recs (α:=S_law35_Deed) Z_law35_Deed E_law35_Deed l]):=opens_slice (α:=S_law35_Deed) (cells:=E_law35_Deed) Z_law35_Deed (by kernel_rfl) (by kernel_rfl) (of_decide_eq_true (by kernel_rfl)) opens_law35_Deed
end Go.Proofs.YtaecmkldkljioaaGreat.M
