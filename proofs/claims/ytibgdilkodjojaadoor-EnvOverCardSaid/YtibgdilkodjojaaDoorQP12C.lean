import Derived.Test.YtibgdilkodjojaaDoorQP12B
set_option linter.all false
namespace Go.Proofs.YtibgdilkodjojaaDoor.M
open Go Go.Proofs.YtibgdilkodjojaaDoor.RX Go.Proofs.YtibgdilkodjojaaDoor.PL
set_option maxRecDepth 100000
def vl (l:List Vr):List Vr:=l.filter fun v=>isName va1 va2 v.f_Key
theorem vl_short (l:List Vr):Short (vl l):=fun v h=>(List.mem_filter.1 h).2
theorem vl_id {l:List Vr} (h:Short l):vl l = l:=List.filter_eq_self.2 h
theorem vl_len (l:List Vr):(vl l).length ≤ l.length:=List.length_filter_le ..
theorem same_self12 (n:Nat) (l:List Vr) (hl:l.length ≤ 100000) (hn:l.length < n):ref12_Same n l l = some true:=by
 unfold ref12_Same
 have:=scanL (L:=ref12_Same_l1 n l l) l (fun _=>(none:Option Bool)) 0 (by omega)
  (fun k i h _=>by
   rw [ref12_Same_l1,if_pos (lt_i h),if_pos (in_i h),if_pos (in_i h),beq_self_eq_true,beq_self_eq_true]
   rfl) (fun k=>by rw [ref12_Same_l1,nlt_n]; rfl) n 0 (by omega) (by omega) (by omega)
 rw [if_neg (by simp),show (0:Int) = ((0:Nat):Int) from rfl,this,List.drop_zero]
 have e:∀ l:List Vr,l.findSome? (fun _=>(none:Option Bool)) = none:=by
  intro l
  induction l with
  | nil=>rfl
  | cons a r ih=>rw [List.findSome?_cons]; exact ih
 rw [e]; rfl
end Go.Proofs.YtibgdilkodjojaaDoor.M
