import Derived.Test.YtibgdilkodjojaaDoorQM14c
set_option linter.all false
namespace Go.Proofs.YtibgdilkodjojaaDoor.M
open Go.RowKit Go.Proofs.YtibgdilkodjojaaDoor.RX
set_option maxRecDepth 100000
theorem opens_string:Opens Tryd.prog 9 (fun l:List UInt8=>l.length ≤ maxLen) (fun l=>[.str l]):=opens_str (by kernel_rfl)
inductive W_tmpl_Part:S_tmpl_Part → Prop
 | mk (x:S_tmpl_Part) (h:(List.length x.f_Name ≤ maxLen) ∧ (List.length x.f_Text ≤ maxLen) ∧ (IntKind.min .i64 ≤ x.f_Op ∧ x.f_Op ≤ IntKind.max .i64)) (hl:x.f_Sub.length ≤ maxLen) (hk:∀ y ∈ x.f_Sub,W_tmpl_Part y):W_tmpl_Part x
def W_api_Var (x:S_api_Var):Prop:=(List.length x.f_Key ≤ maxLen) ∧ (List.length x.f_Val ≤ maxLen)
theorem opens_api_Var:Opens Tryd.prog 43 W_api_Var (fun x=>[.str x.f_Key,.str x.f_Val]):=by
 intro H enc W fuel cs d ps h
 obtain ⟨hl,hf⟩:=field_of Tryd.underlying43 h
 have hl:cs.length = 2:=hl.trans (by kernel_rfl)
 obtain ⟨x0,w0,r0⟩:=hf 0 _ rfl opens_string
 have r0:=repAt (a':=0) (b':=1) r0 (by kernel_rfl) (by kernel_rfl)
 obtain ⟨x1,w1,r1⟩:=hf 1 _ rfl opens_string
 have r1:=repAt (a':=1) (b':=1) r1 (by kernel_rfl) (by kernel_rfl)
 refine ⟨⟨x0,x1⟩,⟨w0,w1⟩,?_⟩
 refine parts_all (l:=[([.str x0],1),([.str x1],1)]) ⟨r0,r1,Nat.le_of_eq hl⟩ rfl
def W_Lapi_Var (l:List (S_api_Var)):Prop:=l.length ≤ maxLen ∧ ∀ x ∈ l,(W_api_Var x)
theorem opens_Lapi_Var:Opens Tryd.prog 22 W_Lapi_Var (fun l=>[.recs (α:=S_api_Var) (S_api_Var.mk [] []) E_api_Var l]):=opens_slice (α:=S_api_Var) (cells:=E_api_Var) (S_api_Var.mk [] []) (by kernel_rfl) (by kernel_rfl) (of_decide_eq_true (by kernel_rfl)) opens_api_Var
end Go.Proofs.YtibgdilkodjojaaDoor.M
