import Derived.Test.YtibgdilkodjojaaGreatDoorQRxShelf
import Derived.Test.YtibgdilkodjojaaGreatDoorQRxNil
import Derived.Shelf.Strings.Builder1
set_option linter.all false
namespace Go.Proofs.YtibgdilkodjojaaGreatDoor.RX
open Go.RowKit
theorem own_arg {F:Fz} {w:World} {B:Env} {k:Nat} {args:List Value} (h:RepL F w B [.own k 0] args):∃ b,B k = some (.box b) ∧ args = [.pointer (some ⟨b,0,none⟩)]:=by
 cases h with
 | cons _ v _ vs h hs =>
  cases hs
  cases h with
  | own _ _ b hB=>exact ⟨b,hB,rfl⟩
structure Quiet (q:Option Nat) (w w':World):Prop where
 os:w'.os = w.os
 tape:w'.tape = w.tape
 output:w'.output = w.output
 size:w.heap.size ≤ w'.heap.size
 block:∀ k,k < w.heap.size → q ≠ some k → w'.heap[k]? = w.heap[k]?
theorem Quiet.of {q:Option Nat} {w w':World} (h:Below w.heap.size w w'):Quiet q w w':=⟨h.os,h.tape,h.output,h.size,fun k hk _=>h.block k hk⟩
theorem bytes_vals {F:Fz} {w:World}:∀ {l:List UInt8} {xs:List Value},RepL F w NB (l.flatMap e8) xs → xs = l.map fun b=>Value.int .u8 (b.toNat:Int)
 | [],_,h=>by cases h; rfl
 | x :: l,_,h=>by
  simp only [List.flatMap_cons,e8,List.singleton_append] at h
  cases h with
  | cons _ v _ vs hv hs =>
   cases hv
   rw [bytes_vals hs]; rfl
theorem callsB_bstring {P:Program} {f T e:Nat} {l:List UInt8} (hf:FOK P f)
  (H:∀ (b n cap:Nat) (q:Option Nat) (p:Value) (w:World),w.heap[b]? = some (.cells #[p,rowVal q n cap] T (0,0)) → n = l.length → OwnRow w e 1 q n cap (l.map fun b=>Value.int .u8 (b.toNat:Int)) →
   Calls P f #[.pointer (some ⟨b,0,none⟩)] w fun ex w'=>ex = .returned (.string ⟨l.toArray⟩) ∧ Quiet q w w') :
  CallsB P f [.own LIM 0] [(LIM,T,[.opt LIM,.srow (LIM + 1)]),(LIM + 1,e,[.rowc false (0:UInt8) e8 l])] (.str l) [(LIM,T,[.opt LIM,.hole])]:=by
 refine ⟨hf,fun F w1 B args hb hr=>?_⟩
 obtain ⟨b,hB,rfl⟩:=own_arg hr
 have hm:memL [(LIM,T,[D.opt LIM,.srow (LIM + 1)]),(LIM + 1,e,[D.rowc false (0:UInt8) e8 l])] LIM T [.opt LIM,.srow (LIM + 1)]:=List.mem_cons_self
 have hm2:memL [(LIM,T,[D.opt LIM,.srow (LIM + 1)]),(LIM + 1,e,[D.rowc false (0:UInt8) e8 l])] (LIM + 1) e [.rowc false (0:UInt8) e8 l]:=List.mem_cons_of_mem _ List.mem_cons_self
 obtain ⟨vs,hrv,hfl,hh,hnn,hnf⟩:=hb.box' hm hB
 obtain ⟨q,n,cap,hBq,hn0,hpos,hge,xs,hxs,hown,hfz⟩:=hb.row' hm2
 have hx:=bytes_vals hxs
 subst hx
 cases hrv with
 | cons _ p _ vs h hs =>
  cases hs with
  | cons _ v _ vs' h1 hs =>
   cases hs
   obtain rfl:v = rowVal q n cap:=by
    cases h1 with
    | srow _ p' n' cap' hB'=>rw [hBq] at hB'; cases hB'; rfl
   have hflv:flatV (rowVal q n cap) = true:=rfl
   have hqb:q ≠ some b:=fun e0=>by
    have:=hb.inj LIM (LIM + 1) b ⟨_,_,hm⟩ ⟨_,_,hm2⟩ (blkOf_box hB) (by rw [blkOf_row hBq,e0])
    exact absurd this (by decide)
   have hblt:b < w1.w.heap.size:=(Array.getElem?_eq_some_iff.1 hh).1
   refine (H b n cap q p w1.w hh hn0 hown).mono ?_
   rintro ex w' ⟨rfl,hq⟩
   have hcell:∀ g j,F g j → w'.heap[g]? = w1.w.heap[g]?:=fun g j hF=>hq.block g (hb.frz g j hF) fun e0=>by
    have:=(hfz g e0 j).1 hF
    simp at this
   refine ⟨_,F,B,rfl,.str l,⟨fun k t ds hk=>?_,fun k t ds c hk hc=>?_,fun i j c hi hj _ _=>?_,fun g j hF=>Nat.lt_of_lt_of_le (hb.frz g j hF) hq.size,hb.more,⟨fun _ _ h=>h,fun g j hF=>World.cell?_of_block (hcell g j hF)⟩,⟨hq.os,hq.tape,hq.output,hq.size,fun k hk hno=>?_⟩,hb.env⟩⟩
   ·have:=List.mem_singleton.1 hk
    cases this
    refine .box _ b [p,rowVal q n cap] hB (.cons _ _ _ _ ?_ (.cons _ _ _ _ (.hole _ hflv) .nil)) rfl ((hq.block b hblt hqb).trans hh) hnf
    cases h with
    | opt _ b' _ hB' hp=>exact .opt _ b' _ hB' hp
   ·have:=List.mem_singleton.1 hk
    cases this
    exact hb.new _ _ _ c hm hc
   ·obtain ⟨_,_,h1⟩:=hi
    obtain ⟨_,_,h2⟩:=hj
    have h1:=List.mem_singleton.1 h1
    have h2:=List.mem_singleton.1 h2
    cases h1; cases h2; rfl
   ·refine hq.block k hk fun e0=>?_
    rcases hb.new _ _ _ k hm2 (by rw [blkOf_row hBq,e0]) with h | h
    ·omega
    ·exact hno h
end Go.Proofs.YtibgdilkodjojaaGreatDoor.RX
namespace Go.Proofs.YtibgdilkodjojaaGreatDoor.RX
open Go.Shelf Go.RowKit Go.Proofs
set_option maxHeartbeats 1000000 in
set_option maxRecDepth 100000 in
theorem bstring_one {P:Program} {ρ:Ren} (L:Lays.n169 P ρ) (X:Builder.Extra P ρ) (b g cap size:Nat) (p:Value) (l:List UInt8) (w:World) (hbk:w.heap[b]? = some (.cells #[p,.slice (some ⟨g,0,none⟩) l.length cap] (ρ.t 72) (0,0)))
  (hg:w.shape? g = some (ρ.t 5,size)) (h0:l ≠ []) (hc:l.length ≤ cap) (hs:l.length ≤ size) (hmax:l.length ≤ maxLen) (hcells:∀ j x,l[j]? = some x → w.cell? ⟨g,j,none⟩ = some (.int .u8 x.toNat)) :
  Calls P (ρ.f 169) #[.pointer (some ⟨b,0,none⟩)] w fun e w'=>e = .returned (.string ⟨l.toArray⟩) ∧ w' = w.drew.freeze ⟨g,0,none⟩ l.length:=by
 have hl0:l.length ≠ 0:=by simpa using h0
 have c1:w.drew.cell? ⟨b,1,none⟩ = some (.slice (some ⟨g,0,none⟩) l.length cap):=by
  have:w.drew.heap[b]? = some (.cells #[p,.slice (some ⟨g,0,none⟩) l.length cap] (ρ.t 72) (0,0)):=hbk
  rw [Lib.cell_of_heap this]; rfl
 have hSD:(Builtin.unsafeSliceData_ #[(ρ.t 37)] (ρ.t 127) #[.slice (some ⟨g,0,none⟩) l.length cap]).run P w.drew = .ok (.pointer (some ⟨g,0,none⟩)) w.drew :=
  Lib.run_unsafeSliceData_row _ _ _ _ _ _ (by omega)
 have hUS:(Builtin.unsafeString_ #[(ρ.t 127),(ρ.t 3)] (ρ.t 9) #[.pointer (some ⟨g,0,none⟩),.int .i64 l.length]).run P w.drew = .ok (.string ⟨l.toArray⟩) (w.drew.freeze ⟨g,0,none⟩ l.length) :=
  Lib.run_unsafeString_row w.drew (ρ.t 127) (ρ.t 3) (ρ.t 9) (ρ.t 5) L.t127 X.cellsByte g size hg l h0 hs (by unfold maxLen at hmax; omega) fun j x hx=>by
   have e:(⟨g,0,none⟩:Addr).add j = ⟨g,j,none⟩:=by unfold Addr.add; split <;> simp_all
   rw [e]; exact hcells j x hx
 have mixed:=L.mixed
 have z72:=L.z72; have v72:=L.v72; have u72:=run_underlying L.t72; have t72:=L.t72; have a72:=L.a72
 have z70:=L.z70; have v70:=L.v70; have u70:=run_underlying L.t70; have t70:=L.t70; have a70:=L.a70
 have z37:=L.z37; have v37:=L.v37; have u37:=run_underlying L.t37; have t37:=L.t37; have a37:=L.a37
 have z127:=L.z127; have v127:=L.v127; have u127:=run_underlying L.t127; have t127:=L.t127; have a127:=L.a127
 have z3:=L.z3; have v3:=L.v3; have u3:=run_underlying L.t3; have t3:=L.t3; have a3:=L.a3
 have z9:=L.z9; have v9:=L.v9; have u9:=run_underlying L.t9; have t9:=L.t9; have a9:=L.a9
 have z5:=X.z5; have v5:=X.v5; have u5:=run_underlying X.t5; have t5:=X.t5; have a5:=X.a5
 go_enter L.f169,Body.n169_ntmps ρ
 go_wp2
 go_region_o
 all_goals (go_wp2; go_ret; exact ⟨rfl,rfl⟩)
theorem quiet_freeze (w:World) (g n:Nat):Quiet (some g) w (w.drew.freeze ⟨g,0,none⟩ n):=by
 unfold World.freeze
 split
 ·exact ⟨rfl,rfl,rfl,Nat.le_refl _,fun _ _ _=>rfl⟩
 ·refine ⟨rfl,rfl,rfl,?_,fun k hk hne=>?_⟩
  ·show w.heap.size ≤ (w.heap.modify g _).size
   rw [Array.size_modify]; exact Nat.le_refl _
  ·have hk:g ≠ k:=fun e=>hne (congrArg some e)
   show (w.heap.modify g _)[k]? = w.heap[k]?
   rw [Array.getElem?_modify,if_neg hk]
set_option maxHeartbeats 2000000 in
set_option maxRecDepth 100000 in
theorem bstring_zero {P:Program} {ρ:Ren} (L:Lays.n169 P ρ) (X:Builder.Extra P ρ) (b:Nat) (a:Addr) (sh:TypeId × Nat) (p:Value) (w:World) (hbk:w.heap[b]? = some (.cells #[p,.slice (some a) 0 0] (ρ.t 72) (0,0))) (hsh:w.shape? a.block = some sh) :
  Calls P (ρ.f 169) #[.pointer (some ⟨b,0,none⟩)] w fun e w'=>e = .returned (.string ⟨#[]⟩) ∧ Below w.heap.size w w':=by
 have hUS:=Any.unsafeString_none L X
 have hlt:b < w.heap.size:=(Array.getElem?_eq_some_iff.1 hbk).1
 have c1:w.drew.cell? ⟨b,1,none⟩ = some (.slice (some a) 0 0):=by
  have:w.drew.heap[b]? = some (.cells #[p,.slice (some a) 0 0] (ρ.t 72) (0,0)):=hbk
  rw [Lib.cell_of_heap this]; rfl
 have hSD:(Builtin.unsafeSliceData_ #[(ρ.t 37)] (ρ.t 127) #[.slice (some a) 0 0]).run P w.drew = .ok (.pointer (some ⟨w.drew.heap.size,0,none⟩)) (w.drew.alloc (.view a (ρ.t 5))) :=
  Lib.run_unsafeSliceData_zero w.drew _ _ (ρ.t 5) L.t127 a 0 sh hsh
 have c2:(w.drew.alloc (.view a (ρ.t 5))).cell? ⟨b,1,none⟩ = some (.slice (some a) 0 0):=by
  have:(w.drew.alloc (.view a (ρ.t 5))).heap[b]? = _:=(Lib.alloc_old w.drew _ b hlt).trans hbk
  rw [Lib.cell_of_heap this]; rfl
 have c3:(w.alloc (.view a (ρ.t 5))).drew.cell? ⟨b,1,none⟩ = some (.slice (some a) 0 0):=c2
 have c0:w.cell? ⟨b,1,none⟩ = some (.slice (some a) 0 0):=c1
 have mixed:=L.mixed
 have z72:=L.z72; have v72:=L.v72; have u72:=run_underlying L.t72; have t72:=L.t72; have a72:=L.a72
 have z70:=L.z70; have v70:=L.v70; have u70:=run_underlying L.t70; have t70:=L.t70; have a70:=L.a70
 have z37:=L.z37; have v37:=L.v37; have u37:=run_underlying L.t37; have t37:=L.t37; have a37:=L.a37
 have z127:=L.z127; have v127:=L.v127; have u127:=run_underlying L.t127; have t127:=L.t127; have a127:=L.a127
 have z3:=L.z3; have v3:=L.v3; have u3:=run_underlying L.t3; have t3:=L.t3; have a3:=L.a3
 have z9:=L.z9; have v9:=L.v9; have u9:=run_underlying L.t9; have t9:=L.t9; have a9:=L.a9
 have z5:=X.z5; have v5:=X.v5; have u5:=run_underlying X.t5; have t5:=X.t5; have a5:=X.a5
 go_enter L.f169,Body.n169_ntmps ρ
 go_wp2
 go_region_o
 all_goals (go_wp2; go_ret; exact ⟨rfl,(Below.drew (Below.refl w.heap.size w)).alloc (Nat.le_refl _) _⟩)
theorem bstring_any {P:Program} {ρ:Ren} (L:Lays.n169 P ρ) (X:Builder.Extra P ρ) (l:List UInt8) (b n cap:Nat) (q:Option Nat) (p:Value) (w:World) (hbk:w.heap[b]? = some (.cells #[p,rowVal q n cap] (ρ.t 72) (0,0))) (hn:n = l.length)
  (hown:OwnRow w (ρ.t 5) 1 q n cap (l.map fun b=>Value.int .u8 (b.toNat:Int))) :
  Calls P (ρ.f 169) #[.pointer (some ⟨b,0,none⟩)] w fun ex w'=>ex = .returned (.string ⟨l.toArray⟩) ∧ Quiet q w w':=by
 subst hn
 rcases hown.2 with ⟨rfl,h0,rfl⟩ | ⟨g,cur,fz,rfl,hh,_,hnc,hcm,hsz,htk⟩
 ·have hl:l = []:=List.eq_nil_of_length_eq_zero h0
  subst hl
  exact (Any.Builder_String_nil L X w.heap.size b p w hbk).mono fun e w' h=>⟨h.1,.of h.2⟩
 ·by_cases hl:l = []
  ·subst hl
   by_cases hc0:cap = 0
   ·subst hc0
    exact (bstring_zero L X b ⟨g,0,none⟩ _ p w hbk (by simp [World.shape?,hh]; rfl)).mono fun e w' h=>⟨h.1,.of h.2⟩
   ·exact (Any.Builder_String_room L X w.heap.size b g cap p w hc0 hbk).mono fun e w' h=>⟨h.1,.of h.2⟩
  ·refine (bstring_one L X b g cap cur.size p l w hbk (by simp [World.shape?,hh]) hl hnc (by omega) (by omega) fun j x hx=>?_).mono ?_
   ·exact hown.cells (by rw [List.getElem?_map,hx]; rfl)
   ·rintro e w' ⟨rfl,rfl⟩
    exact ⟨rfl,quiet_freeze w g _⟩
theorem run_append_strict {P:Program} {w:World} {t t2 ty e:Nat} {i:TypeInfo} {z:Value} {p:Option Nat} {n cap:Nat} (ht:P.underlying t = some (.slice e)) (hi:P.info? e = some i) (hz:i.zero = some z) (hzs:z.cells.size = i.size) (hpos:0 < i.size)
  (ht2:(∃ e2,P.underlying t2 = some (.slice e2)) ∨ P.underlying t2 = some .string)
  {xs:List Value} (hown:OwnRow w e i.size p n cap xs)
  {x:Value} {m:Nat} {news:List Value} (hlen:∀ w',(Builtin.lenOf x).run P w' = .ok m w') (hx:(Builtin.firstCells i.size m x).run P w = .ok news.toArray w) (hx':(Builtin.firstCells i.size m x).run P w.drew = .ok news.toArray w.drew)
  (hl:news.length = m * i.size) (h1:∀ u ∈ news,u.oneCell' = true) (hb:(n + m) * (i.bytes + 1) ≤ 140737488355328) :
  ∃ p' cap' w',(Builtin.append_ #[t,t2] ty #[rowVal p n cap,x]).run P w = .ok (rowVal p' (n + m) cap') w' ∧ OwnRow w' e i.size p' (n + m) cap' (xs ++ news) ∧ ((p' = p ∧ w.grownBy w' p) ∨ (p' = some w.heap.size ∧ w.grownBy w' none)):=by
 obtain ⟨p',cap',w',v',g1,g2,g3,g4⟩:=run_append2 (ty:=ty) (v0:=rowVal p n cap) (.inl rfl) ht hi hz hzs hpos ht2 hown hlen hx hx' hl h1 hb
 rcases g2 with rfl | ⟨rfl,h0,rfl,q,rfl⟩
 ·exact ⟨p',cap',w',g1,g3,g4⟩
 ·have hp:p = none:=by
   rcases g4 with ⟨e,_⟩ | ⟨e,_⟩
   ·exact e.symm
   ·cases e
  subst hp
  have hn:n = 0 ∧ cap = 0:=by
   rcases hown.2 with ⟨_,h1,h2⟩ | ⟨_,_,_,h,_⟩
   ·exact ⟨h1,h2⟩
   ·cases h
  obtain ⟨rfl,rfl⟩:=hn
  obtain rfl:m = 0:=by omega
  obtain rfl:news = []:=List.eq_nil_of_length_eq_zero (by simpa using hl)
  have hd:(Builtin.append_ #[t,t2] ty #[rowVal none 0 0,x]).run P w = .ok (.slice none 0 0) w:=by
   rcases ht2 with ⟨e2,ht2⟩ | ht2 <;> simp [rowVal,Builtin.append_,run_underlying ht,run_underlying ht2,sizeOf,typeInfo,hi,hlen,hx,storeCells]
  rw [hd] at g1
  injection g1 with e1 e2
  injection e1 with e1 _ _
  subst e1
  subst e2
  exact ⟨none,0,w,hd,g3,g4⟩
open Go.Lib in
theorem wpList_append_run {P:Program} {w w':World} {v v' xv:Value} {ops:Array Oper} {rest:List Oper} {o:Oper} {a:Act} {Q:Exit → Act → World → Prop} (hgd:o.guard = none) (sl x:Operand) (t u:TypeId)
  (ho:o.op = .call { callee:=.builtin .append,args:=#[sl,x],argTypes:=#[t,u] }) (hs:a.eval sl = v) (hx:a.eval x = xv) (hr:(Builtin.append_ #[t,u] o.type #[v,xv]).run P w = .ok v' w')
  (h:wpList P ops Q rest (a.put o.dst v') w'):wpList P ops Q (o :: rest) a w:=by
 refine wpList_plain hgd fun K hK=>?_
 unfold Oper.wp execOp
 simp only [ho,resolve,invoke,builtin,Sem.run_bind,Sem.run_pure,Result.andThen_ok,List.map_toArray,List.map_cons,List.map_nil,hs,hx,hr]
 exact hK _ _ h
structure BTypes (P:Program) (ρ:Ren):Prop where
 mixed:P.follows .mixedOrders = true
 t72 : P.underlying (ρ.t 72) = some (TypeDesc.struct #[{ name := "addr", type := ρ.t 70, offset := 0, embedded := false, tag := "", pkgPath := "strings", byteOffset := 0 }, { name := "buf", type := ρ.t 37, offset := 1, embedded := false, tag := "", pkgPath := "strings", byteOffset := 8 }])
 a72:∀ w,(isAgg (ρ.t 72)).run P w = .ok true w
 z72:∀ w,(Go.sizeOf (ρ.t 72)).run P w = .ok 2 w
 v72:∀ w,(zeroValue (ρ.t 72)).run P w = .ok (Value.agg #[Value.pointer none,Value.slice none 0 0]) w
 t70:P.underlying (ρ.t 70) = some (TypeDesc.pointer (ρ.t 72))
 a70:∀ w,(isAgg (ρ.t 70)).run P w = .ok false w
 z70:∀ w,(Go.sizeOf (ρ.t 70)).run P w = .ok 1 w
 v70:∀ w,(zeroValue (ρ.t 70)).run P w = .ok (Value.pointer none) w
 t37:P.underlying (ρ.t 37) = some (TypeDesc.slice (ρ.t 5))
 a37:∀ w,(isAgg (ρ.t 37)).run P w = .ok false w
 z37:∀ w,(Go.sizeOf (ρ.t 37)).run P w = .ok 1 w
 v37:∀ w,(zeroValue (ρ.t 37)).run P w = .ok (Value.slice none 0 0) w
 t3:P.underlying (ρ.t 3) = some (TypeDesc.int IntKind.i64)
 a3:∀ w,(isAgg (ρ.t 3)).run P w = .ok false w
 z3:∀ w,(Go.sizeOf (ρ.t 3)).run P w = .ok 1 w
 v3:∀ w,(zeroValue (ρ.t 3)).run P w = .ok (Value.int IntKind.i64 0) w
 t9:P.underlying (ρ.t 9) = some (TypeDesc.string)
 a9:∀ w,(isAgg (ρ.t 9)).run P w = .ok false w
 z9:∀ w,(Go.sizeOf (ρ.t 9)).run P w = .ok 1 w
 v9:∀ w,(zeroValue (ρ.t 9)).run P w = .ok (Value.string { data:=#[] }) w
 e240:∀ args w,(callFunc (ρ.f 240) args).run P w = .ok (.enter (ρ.f 240) args) w
 fresh:∀ b w,w.cell? ⟨b,0,none⟩ = some (.pointer none) → w.shape? b = some (ρ.t 72,2) → w.frozen? ⟨b,0,none⟩ = false →
  Calls P (ρ.f 240) #[.pointer (some ⟨b,0,none⟩)] w fun e w'=>e = .returned (.tuple #[]) ∧ w' = w.setCell ⟨b,0,none⟩ (.pointer (some ⟨b,0,none⟩))
 used:∀ b w,w.cell? ⟨b,0,none⟩ = some (.pointer (some ⟨b,0,none⟩)) → Calls P (ρ.f 240) #[.pointer (some ⟨b,0,none⟩)] w fun e w'=>e = .returned (.tuple #[]) ∧ w' = w
set_option maxHeartbeats 2000000 in
set_option maxRecDepth 100000 in
theorem bwrite {P:Program} {ρ:Ren} (L:BTypes P ρ) (hfn:P.funcs[ρ.f 166]? = some (Body.n166 ρ)) (X:Builder.Extra P ρ) (b n cap:Nat) (q:Option Nat) (p:Value) (xs news:List Value) (s:ByteArray) (w:World) (hbk:w.heap[b]? = some (.cells #[p,rowVal q n cap] (ρ.t 72) (0,0)))
  (hp:p = .pointer none ∨ p = .pointer (some ⟨b,0,none⟩)) (hqb:q ≠ some b) (hown:OwnRow w (ρ.t 5) 1 q n cap xs) (hnews:news.length = s.size) (h1:∀ u ∈ news,u.oneCell' = true)
  (hx:∀ w',(Builtin.firstCells 1 s.size (.string s)).run P w' = .ok news.toArray w') (hb:(n + s.size) * 2 ≤ 140737488355328) :
  Calls P (ρ.f 166) #[.pointer (some ⟨b,0,none⟩),.string s] w fun e w'=>e = .returned (.tuple #[.int .i64 s.size,.nilIface]) ∧ ∃ q' cap' w2,w' = w2.setCell ⟨b,1,none⟩ (rowVal q' (n + s.size) cap') ∧
   w2.heap[b]? = some (.cells #[.pointer (some ⟨b,0,none⟩),rowVal q n cap] (ρ.t 72) (0,0)) ∧ OwnRow w2 (ρ.t 5) 1 q' (n + s.size) cap' (xs ++ news) ∧ ∃ w1,(w1 = w ∨ w1 = w.setCell ⟨b,0,none⟩ (.pointer (some ⟨b,0,none⟩))) ∧ ((q' = q ∧ w1.grownBy w2 q) ∨ (q' = some w1.heap.size ∧ w1.grownBy w2 none)):=by
 obtain ⟨i0,hi,hz0,hz1,hz2⟩:=info_parts X.infoByte
 have mixed:=L.mixed
 have z72:=L.z72; have v72:=L.v72; have u72:=run_underlying L.t72; have t72:=L.t72; have a72:=L.a72
 have z70:=L.z70; have v70:=L.v70; have u70:=run_underlying L.t70; have t70:=L.t70; have a70:=L.a70
 have z37:=L.z37; have v37:=L.v37; have u37:=run_underlying L.t37; have t37:=L.t37; have a37:=L.a37
 have z3:=L.z3; have v3:=L.v3; have u3:=run_underlying L.t3; have t3:=L.t3; have a3:=L.a3
 have z9:=L.z9; have v9:=L.v9; have u9:=run_underlying L.t9; have t9:=L.t9; have a9:=L.a9
 have z5:=X.z5; have v5:=X.v5; have u5:=run_underlying X.t5; have t5:=X.t5; have a5:=X.a5
 have e240:∀ args w,(callFunc (ρ.f 240) args).run P w = .ok (.enter (ρ.f 240) args) w:=L.e240
 have hcc:Calls P (ρ.f 240) #[.pointer (some ⟨b,0,none⟩)] w fun e w1=>e = .returned (.tuple #[]) ∧ (w1 = w ∨ w1 = w.setCell ⟨b,0,none⟩ (.pointer (some ⟨b,0,none⟩))) ∧ w1.heap[b]? = some (.cells #[.pointer (some ⟨b,0,none⟩),rowVal q n cap] (ρ.t 72) (0,0)) ∧ OwnRow w1 (ρ.t 5) 1 q n cap xs:=by
  rcases hp with rfl | rfl
  ·refine (L.fresh b w (by rw [Lib.cell_of_heap hbk]; rfl) (by simp [World.shape?,hbk]) (Lib.frozen_of_heap hbk 0)).mono ?_
   rintro e w1 ⟨rfl,rfl⟩
   refine ⟨rfl,.inr rfl,by simp [World.setCell,Array.getElem?_modify,hbk],?_⟩
   refine ⟨hown.1,hown.2.imp id ?_⟩
   rintro ⟨g,cur,fz,rfl,hh,h⟩
   refine ⟨g,cur,fz,rfl,?_,h⟩
   have hne:b ≠ g:=fun e=>hqb (congrArg some e.symm)
   simp [World.setCell,Array.getElem?_modify,hne,hh]
  ·refine (L.used b w (by rw [Lib.cell_of_heap hbk]; rfl)).mono ?_
   rintro e w1 ⟨rfl,rfl⟩
   exact ⟨rfl,.inl rfl,hbk,hown⟩
 have hlenS:∀ w',(Builtin.lenOf (.string s)).run P w' = .ok s.size w':=fun w'=>by simp [Builtin.lenOf]
 go_enter hfn,Body.n166_ntmps ρ
 go_wp2_with (go_at_fn (ρ.f 240); refine hcc.mono ?_)
 rintro e w1 ⟨rfl,hw1,hbk1,hown1⟩
 have c0:w1.cell? ⟨b,0,none⟩ = some (.pointer (some ⟨b,0,none⟩)):=by rw [Lib.cell_of_heap hbk1]; rfl
 have c1:w1.cell? ⟨b,1,none⟩ = some (rowVal q n cap):=by rw [Lib.cell_of_heap hbk1]; rfl
 obtain ⟨q',cap',w2,hA,hown2,hg⟩:=run_append_strict (P:=P) (w:=w1) (t:=ρ.t 37) (t2:=ρ.t 9) (ty:=ρ.t 37) (e:=ρ.t 5) (i:=i0) (p:=q) (n:=n) (cap:=cap) (xs:=xs) (x:=.string s) (m:=s.size) (news:=news) L.t37 hi hz0 (by rw [hz1]; rfl) (by rw [hz1]; decide) (.inr L.t9) (by rw [hz1]; exact hown1) hlenS (by rw [hz1]; exact hx _) (by rw [hz1]; exact hx _) (by rw [hz1]; omega) h1 (by rw [hz2]; exact hb)
 rw [hz1] at hown2
 have hlt:b < w1.heap.size:=(Array.getElem?_eq_some_iff.1 hbk1).1
 have hb2:w2.heap[b]? = some (.cells #[.pointer (some ⟨b,0,none⟩),rowVal q n cap] (ρ.t 72) (0,0)):=by
  rcases hg with ⟨_,hg⟩ | ⟨_,hg⟩
  ·rw [hg.block b hlt (fun e=>hqb e.symm)]; exact hbk1
  ·rw [hg.block b hlt (by simp)]; exact hbk1
 have d0:w2.cell? ⟨b,0,none⟩ = some (.pointer (some ⟨b,0,none⟩)):=by rw [Lib.cell_of_heap hb2]; rfl
 have d1:w2.cell? ⟨b,1,none⟩ = some (rowVal q n cap):=by rw [Lib.cell_of_heap hb2]; rfl
 have f1:w2.frozen? ⟨b,1,none⟩ = false:=Lib.frozen_of_heap hb2 1
 go_wp2_with (at_builtin; refine wpList_append_run rfl _ _ (ρ.t 37) (ρ.t 9) rfl rfl rfl hA ?_)
 obtain ⟨ao,m,c,hao⟩:∃ ao m c,rowVal q' (n + s.size) cap' = .slice ao m c:=⟨_,_,_,rfl⟩
 obtain ⟨ao2,m2,c2,hao2⟩:∃ ao m c,rowVal q n cap = .slice ao m c:=⟨_,_,_,rfl⟩
 have hfin:∃ q' cap' w2',w2.setCell ⟨b,1,none⟩ (.slice ao m c) = w2'.setCell ⟨b,1,none⟩ (rowVal q' (n + s.size) cap') ∧
   w2'.heap[b]? = some (.cells #[.pointer (some ⟨b,0,none⟩),rowVal q n cap] (ρ.t 72) (0,0)) ∧ OwnRow w2' (ρ.t 5) 1 q' (n + s.size) cap' (xs ++ news) ∧ ∃ w1,(w1 = w ∨ w1 = w.setCell ⟨b,0,none⟩ (.pointer (some ⟨b,0,none⟩))) ∧ ((q' = q ∧ w1.grownBy w2' q) ∨ (q' = some w1.heap.size ∧ w1.grownBy w2' none)) :=
  ⟨q',cap',w2,by rw [hao],hb2,hown2,w1,hw1,hg⟩
 rw [hao2] at d1
 rw [hao,hao2]
 clear hA hao hao2
 have hst:(storeCells ⟨b,1,none⟩ [.slice ao m c]).run P w2 = .ok () (w2.setCell ⟨b,1,none⟩ (.slice ao m c)):=by
  have h2:(store ⟨b,1,none⟩ (.slice ao m c)).run P w2 = .ok () (w2.setCell ⟨b,1,none⟩ (.slice ao m c)):=by
   rw [run_store P w2 _ _ _ rfl,d1]; simp [f1]
  simp [storeCells,h2,Addr.add]
 go_wp2
 rw [hst]
 simp only [Result.andThen]
 rw [Oper.upon_skip]
 go_wp2
 go_ret2
 exact ⟨rfl,hfin⟩
theorem bytes_rep {F:Fz} {w:World} {B:Env}:∀ l:List UInt8,RepL F w B (l.flatMap e8) (l.map fun b=>Value.int .u8 (b.toNat:Int))
 | []=>.nil
 | x :: l=>by
  simp only [List.flatMap_cons,e8,List.singleton_append,List.map_cons]
  exact .cons _ _ _ _ (.val _ rfl) (bytes_rep l)
def Wrote (T e b:Nat) (q:Option Nat) (l':List UInt8) (w w':World):Prop :=
 ∃ q' cap',w'.heap[b]? = some (.cells #[.pointer (some ⟨b,0,none⟩),rowVal q' l'.length cap'] T (0,0)) ∧ OwnRow w' e 1 q' l'.length cap' (l'.map fun b=>Value.int .u8 (b.toNat:Int)) ∧
  (w'.os = w.os ∧ w'.tape = w.tape ∧ w'.output = w.output ∧ w.heap.size ≤ w'.heap.size ∧ ∀ k,k < w.heap.size → k ≠ b → q ≠ some k → w'.heap[k]? = w.heap[k]?) ∧ (q' = q ∨ ∃ g,q' = some g ∧ w.heap.size ≤ g)
theorem callsB_bwrite {P:Program} {f T e:Nat} {l l':List UInt8} {d2 r:D} {x2 v0:Value} (hf:FOK P f) (hd2:∀ (F:Fz) (w:World) (B:Env) v,Rep F w B d2 v → v = x2) (hr0:∀ (F:Fz) (w:World) (B:Env),Rep F w B r v0)
  (H:∀ (b n cap:Nat) (q:Option Nat) (p:Value) (w:World),w.heap[b]? = some (.cells #[p,rowVal q n cap] T (0,0)) → (p = .pointer none ∨ p = .pointer (some ⟨b,0,none⟩)) → q ≠ some b → n = l.length → OwnRow w e 1 q n cap (l.map fun b=>Value.int .u8 (b.toNat:Int)) →
   Calls P f #[.pointer (some ⟨b,0,none⟩),x2] w fun ex w'=>ex = .returned v0 ∧ Wrote T e b q l' w w') :
  CallsB P f [.own LIM 0,d2] [(LIM,T,[.opt LIM,.srow (LIM + 1)]),(LIM + 1,e,[.rowc false (0:UInt8) e8 l])] r [(LIM,T,[.opt LIM,.srow 1]),(1,e,[.rowc false (0:UInt8) e8 l'])]:=by
 refine ⟨hf,fun F w1 B args hb hr=>?_⟩
 have ha:∃ b,B LIM = some (.box b) ∧ args = [.pointer (some ⟨b,0,none⟩),x2]:=by
  cases hr with
  | cons _ v _ vs h hs =>
   cases hs with
   | cons _ v2 _ vs2 h2 hs =>
    cases hs
    have:=hd2 _ _ _ _ h2
    subst this
    cases h with
    | own _ _ b hB=>exact ⟨b,hB,rfl⟩
 obtain ⟨b,hB,rfl⟩:=ha
 have hm:memL [(LIM,T,[D.opt LIM,.srow (LIM + 1)]),(LIM + 1,e,[D.rowc false (0:UInt8) e8 l])] LIM T [.opt LIM,.srow (LIM + 1)]:=List.mem_cons_self
 have hm2:memL [(LIM,T,[D.opt LIM,.srow (LIM + 1)]),(LIM + 1,e,[D.rowc false (0:UInt8) e8 l])] (LIM + 1) e [.rowc false (0:UInt8) e8 l]:=List.mem_cons_of_mem _ List.mem_cons_self
 obtain ⟨vs,hrv,hfl,hh,hnn,hnf⟩:=hb.box' hm hB
 obtain ⟨q,n,cap,hBq,hn0,hpos,hge,xs,hxs,hown,hfz⟩:=hb.row' hm2
 have hx:=bytes_vals hxs
 subst hx
 cases hrv with
 | cons _ p _ vs h hs =>
  cases hs with
  | cons _ v _ vs' h1 hs =>
   cases hs
   obtain rfl:v = rowVal q n cap:=by
    cases h1 with
    | srow _ p' n' cap' hB'=>rw [hBq] at hB'; cases hB'; rfl
   have hqb:q ≠ some b:=fun e0=>by
    have:=hb.inj LIM (LIM + 1) b ⟨_,_,hm⟩ ⟨_,_,hm2⟩ (blkOf_box hB) (by rw [blkOf_row hBq,e0])
    exact absurd this (by decide)
   have hp:p = .pointer none ∨ p = .pointer (some ⟨b,0,none⟩):=by
    cases h with
    | opt _ b' _ hB' hp=>rw [hB] at hB'; cases hB'; exact hp
   have hblt:b < w1.w.heap.size:=(Array.getElem?_eq_some_iff.1 hh).1
   have hqf:∀ g,q = some g → ∀ j,¬ F g j:=fun g e0 j hF=>by
    have:=(hfz g e0 j).1 hF
    simp at this
   refine (H b n cap q p w1.w hh hp hqb hn0 hown).mono ?_
   rintro ex w' ⟨rfl,q',cap',hb',hown',⟨ho,ht,hout,hsize,hblk⟩,hq'⟩
   have hq'b:q' ≠ some b:=by
    rcases hq' with rfl | ⟨g,rfl,hg⟩
    ·exact hqb
    ·intro e0; cases e0; omega
   have hB1:setB B 1 (.row q' l'.length cap') 1 = some (.row q' l'.length cap'):=setB_self _ _ _
   have hBL:setB B 1 (.row q' l'.length cap') LIM = some (.box b):=(setB_ne _ _ _ _ (by decide)).trans hB
   have hcell:∀ g j,F g j → w'.heap[g]? = w1.w.heap[g]?:=fun g j hF=>hblk g (hb.frz g j hF) (fun e0=>hnf j (e0 ▸ hF)) fun e0=>hqf g e0 j hF
   have hcase:∀ k t ds,memL [(LIM,T,[D.opt LIM,.srow 1]),(1,e,[D.rowc false (0:UInt8) e8 l'])] k t ds → (k = LIM ∧ t = T ∧ ds = [D.opt LIM,.srow 1]) ∨ (k = 1 ∧ t = e ∧ ds = [D.rowc false (0:UInt8) e8 l']):=by
    intro k t ds hk
    rcases List.mem_cons.1 hk with hk | hk
    ·cases hk; exact .inl ⟨rfl,rfl,rfl⟩
    ·have:=List.mem_singleton.1 hk
     cases this; exact .inr ⟨rfl,rfl,rfl⟩
   refine ⟨v0,F,setB B 1 (.row q' l'.length cap'),rfl,hr0 _ _ _,⟨fun k t ds hk=>?_,fun k t ds c hk hc=>?_,fun i j c hi hj hci hcj=>?_,fun g j hF=>Nat.lt_of_lt_of_le (hb.frz g j hF) hsize,hb.more,⟨fun _ _ h=>h,fun g j hF=>World.cell?_of_block (hcell g j hF)⟩,⟨ho,ht,hout,hsize,fun k hk hno=>?_⟩,fun k r hk=>?_⟩⟩
   ·rcases hcase _ _ _ hk with ⟨rfl,rfl,rfl⟩ | ⟨rfl,rfl,rfl⟩
    ·exact .box _ b [_,rowVal q' l'.length cap'] hBL (.cons _ _ _ _ (.opt _ b _ hBL (.inr rfl)) (.cons _ _ _ _ (.srow _ _ _ _ hB1) .nil)) rfl hb' hnf
    ·refine .row false _ _ l' q' l'.length cap' hB1 ⟨rfl,hpos,hge,_,bytes_rep l',hown',fun b0 e0 j=>?_⟩
     refine ⟨fun hF=>?_,fun h=>by simp at h⟩
     rcases hq' with rfl | ⟨g,rfl,hg⟩
     ·exact (hqf b0 e0 j hF).elim
     ·cases e0
      have:=hb.frz _ _ hF
      omega
   ·rcases hcase _ _ _ hk with ⟨rfl,rfl,rfl⟩ | ⟨rfl,rfl,rfl⟩
    ·rw [blkOf_box hBL] at hc; cases hc; exact hnn
    ·rw [blkOf_row hB1] at hc
     rcases hq' with rfl | ⟨g,rfl,hg⟩
     ·exact hb.new _ _ _ c hm2 (by rw [blkOf_row hBq,hc])
     ·cases hc; exact .inl hg
   ·obtain ⟨_,_,h1⟩:=hi
    obtain ⟨_,_,h2⟩:=hj
    rcases hcase _ _ _ h1 with ⟨rfl,_,_⟩ | ⟨rfl,_,_⟩ <;> rcases hcase _ _ _ h2 with ⟨rfl,_,_⟩ | ⟨rfl,_,_⟩
    ·rfl
    ·rw [blkOf_box hBL] at hci; rw [blkOf_row hB1] at hcj; cases hci; exact (hq'b hcj).elim
    ·rw [blkOf_row hB1] at hci; rw [blkOf_box hBL] at hcj; cases hcj; exact (hq'b hci).elim
    ·rfl
   ·refine hblk k hk (fun e0=>?_) fun e0=>?_
    ·subst e0
     rcases hnn with h | h
     ·omega
     ·exact hno h
    ·rcases hb.new _ _ _ k hm2 (by rw [blkOf_row hBq,e0]) with h | h
     ·omega
     ·exact hno h
   ·have hk1:k ≠ 1:=fun e0=>by
     have:=w1.low k (by rw [hk]; simp)
     unfold LIM at this; omega
    rw [setB_ne _ _ _ _ hk1]; exact hb.env k r hk
theorem bytes_one (s:List UInt8):∀ u ∈ s.map (fun b=>Value.int .u8 (b.toNat:Int)),u.oneCell' = true:=by
 intro u hu
 obtain ⟨x,_,rfl⟩:=List.mem_map.1 hu
 rfl
theorem quiet_set {w w1:World} {b:Nat} (hw1:w1 = w ∨ w1 = w.setCell ⟨b,0,none⟩ (.pointer (some ⟨b,0,none⟩))):w1.os = w.os ∧ w1.tape = w.tape ∧ w1.output = w.output ∧ w.heap.size ≤ w1.heap.size ∧ ∀ k,k < w.heap.size → k ≠ b → w1.heap[k]? = w.heap[k]?:=by
 rcases hw1 with rfl | rfl
 ·exact ⟨rfl,rfl,rfl,Nat.le_refl _,fun _ _ _=>rfl⟩
 ·refine ⟨rfl,rfl,rfl,by simp [World.setCell],fun k _ hk=>?_⟩
  have hk':b ≠ k:=fun e=>hk e.symm
  simp [World.setCell,Array.getElem?_modify,hk']
theorem wrote_of {T e b n cap:Nat} {q q':Option Nat} {p:Value} {l':List UInt8} {w w1 w2:World} {cap':Nat} (hbk:w.heap[b]? = some (.cells #[p,rowVal q n cap] T (0,0))) (hqb:q ≠ some b)
  (hb2:w2.heap[b]? = some (.cells #[.pointer (some ⟨b,0,none⟩),rowVal q n cap] T (0,0))) (hown2:OwnRow w2 e 1 q' l'.length cap' (l'.map fun b=>Value.int .u8 (b.toNat:Int)))
  (hq1:w1.os = w.os ∧ w1.tape = w.tape ∧ w1.output = w.output ∧ w.heap.size ≤ w1.heap.size ∧ ∀ k,k < w.heap.size → k ≠ b → w1.heap[k]? = w.heap[k]?) (hg:(q' = q ∧ w1.grownBy w2 q) ∨ (q' = some w1.heap.size ∧ w1.grownBy w2 none)) :
  Wrote T e b q l' w (w2.setCell ⟨b,1,none⟩ (rowVal q' l'.length cap')):=by
 have hblt:b < w.heap.size:=(Array.getElem?_eq_some_iff.1 hbk).1
 obtain ⟨o1,t1,u1,z1,k1⟩:=hq1
 have hq'b:q' ≠ some b:=by
  rcases hg with ⟨rfl,_⟩ | ⟨rfl,_⟩
  ·exact hqb
  ·intro e0; cases e0; omega
 have hgg:w2.os = w1.os ∧ w2.tape = w1.tape ∧ w2.output = w1.output ∧ w1.heap.size ≤ w2.heap.size ∧ ∀ k,k < w1.heap.size → q ≠ some k → w2.heap[k]? = w1.heap[k]?:=by
  rcases hg with ⟨_,hg⟩ | ⟨_,hg⟩
  ·exact ⟨hg.os,hg.tape,hg.output,hg.size,fun k hk hne=>hg.block k hk fun e=>hne e.symm⟩
  ·exact ⟨hg.os,hg.tape,hg.output,hg.size,fun k hk _=>hg.block k hk (by simp)⟩
 obtain ⟨o2,t2,u2,z2,k2⟩:=hgg
 refine ⟨q',cap',?_,?_,⟨o2.trans o1,t2.trans t1,u2.trans u1,by show w.heap.size ≤ (w2.setCell _ _).heap.size; simp [World.setCell]; omega,fun k hk hkb hkq=>?_⟩,?_⟩
 ·simp [World.setCell,Array.getElem?_modify,hb2]
 ·refine ⟨hown2.1,hown2.2.imp id ?_⟩
  rintro ⟨g,cur,fz,rfl,hh,h⟩
  refine ⟨g,cur,fz,rfl,?_,h⟩
  have hne:b ≠ g:=fun e=>hq'b (congrArg some e.symm)
  simp [World.setCell,Array.getElem?_modify,hne,hh]
 ·have hk':b ≠ k:=fun e=>hkb e.symm
  have:(w2.setCell ⟨b,1,none⟩ (rowVal q' l'.length cap')).heap[k]? = w2.heap[k]?:=by simp [World.setCell,Array.getElem?_modify,hk']
  rw [this,k2 k (by omega) hkq,k1 k hk hkb]
 ·rcases hg with ⟨h,_⟩ | ⟨h,_⟩
  ·exact .inl h
  ·exact .inr ⟨_,h,by omega⟩
theorem bwriteString {P:Program} {ρ:Ren} (L:BTypes P ρ) (hfn:P.funcs[ρ.f 166]? = some (Body.n166 ρ)) (X:Builder.Extra P ρ) {l s:List UInt8} (hf:FOK P (ρ.f 166)) (hl:decide ((l.length + s.length) * (1 + 1) ≤ limit) = true) :
  CallsB P (ρ.f 166) [.own LIM 0,.str s] [(LIM,ρ.t 72,[.opt LIM,.srow (LIM + 1)]),(LIM + 1,ρ.t 5,[.rowc false (0:UInt8) e8 l])] (.tup [.val (.int .i64 (s.length:Int)),.val .nilIface]) [(LIM,ρ.t 72,[.opt LIM,.srow 1]),(1,ρ.t 5,[.rowc false (0:UInt8) e8 (l ++ s)])]:=by
 have hlim:(l.length + s.length) * 2 ≤ 140737488355328:=of_decide_eq_true hl
 refine callsB_bwrite (x2:=.string ⟨s.toArray⟩) (v0:=.tuple #[.int .i64 (s.length:Int),.nilIface]) hf (fun F w B v h=>by cases h; rfl) (fun F w B=>.tup _ [_,_] (.cons _ _ _ _ (.val _ rfl) (.cons _ _ _ _ (.val _ rfl) .nil))) fun b n cap q p w hbk hp hqb hn hown=>?_
 subst hn
 have hs:(⟨s.toArray⟩:ByteArray).size = s.length:=by simp [ByteArray.size]
 refine (bwrite L hfn X b l.length cap q p _ (s.map fun b=>Value.int .u8 (b.toNat:Int)) ⟨s.toArray⟩ w hbk hp hqb hown (by simp [hs]) (bytes_one s) (fun w'=>by simp [Builtin.firstCells,hs]) (by rw [hs]; exact hlim)).mono ?_
 rintro ex w' ⟨rfl,q',cap',w2,rfl,hb2,hown2,w1,hw1,hg⟩
 rw [hs] at hown2 ⊢
 refine ⟨rfl,?_⟩
 have he:l.length + s.length = (l ++ s).length:=by simp
 rw [he,← List.map_append] at hown2
 rw [he]
 exact wrote_of hbk hqb hb2 hown2 (quiet_set hw1) hg
def bldCell (b k:Nat) (ds:List D):List D:=match ds with | [.val (.pointer none),.val (.slice none 0 0)]=>[.opt b,.srow k] | ds=>ds
def bldL (b k:Nat) (L:Boxes):Boxes:=L.map fun x=>bif x.1 == b then (x.1,x.2.1,bldCell b k x.2.2) else x
section
variable {P:Program} {nt:Nat} {F0:Fz} {w0:Pt P} {K:List (Nat × D)} {L:Boxes} {Q:Exit → Act → World → Prop}
theorem St.builderB (b k e:Nat) (hlt:k < 1000000) (hf:freshKey k K L = true) {L':Boxes} (hv:bldL b k L = L'):∀ a w,St nt F0 w0 K L a w → St nt F0 w0 K ((k,e,[.rowc false (0:UInt8) e8 []]) :: L') a w:=by
 rintro a w ⟨B,F,hb,hd,hs,hK⟩
 subst hv
 simp only [freshKey,Bool.and_eq_true] at hf
 have hfK:∀ x ∈ K,D.names k x.2 = false:=fun x hx=>by simpa using List.all_eq_true.1 hf.1 x hx
 have hfL:∀ x ∈ L,x.1 ≠ k ∧ D.namess k x.2.2 = false:=fun x hx=>by simpa using List.all_eq_true.1 hf.2 x hx
 have hB':setB B k (.row none 0 0) k = some (.row none 0 0):=setB_self _ _ _
 have hbase:=hb.newKey (t:=k) (ty:=e) (ds:=[.rowc false (0:UInt8) e8 []]) (F':=F) (w':=w) (B':=setB B k (.row none 0 0)) (M':=memL L) (Grow.refl _ _)
  (.row false (0:UInt8) e8 [] none 0 0 hB' ⟨rfl,(good8 []).1,(good8 []).2,[],.nil,⟨by simp,.inl ⟨rfl,rfl,rfl⟩⟩,fun b hb=>by cases hb⟩) (fun b hbk=>by rw [blkOf_row hB'] at hbk; cases hbk)
  (fun j t' ds hm=>⟨hm,(hfL _ hm).1,setB_ne _ _ _ _ (hfL _ hm).1,fun F w vs hr=>hr.rebox k (setB_ne _ _ _) (hfL _ hm).2⟩) (fun b _=>⟨rfl,fun _ h=>h⟩) hb.frz (fun g j h=>.inl h) (BelowS.refl _ _ _) (fun q hq=>setB_ne _ _ _ _ (by unfold LIM at hq; omega))
 have hmem:∀ q t es,memL ((k,e,[D.rowc false (0:UInt8) e8 []]) :: bldL b k L) q t es → ∃ ds,memBox k e [.rowc false (0:UInt8) e8 []] (memL L) q t ds ∧ (es = ds ∨ (q = b ∧ ds = [.val (.pointer none),.val (.slice none 0 0)] ∧ es = [.opt b,.srow k])):=by
  intro q t es hm
  rcases List.mem_cons.1 hm with hm | hm
  ·cases hm; exact ⟨_,.inl ⟨rfl,rfl,rfl⟩,.inl rfl⟩
  ·obtain ⟨x,hx,he⟩:=List.mem_map.1 hm
   obtain ⟨q',t',ds⟩:=x
   cases hc:q' == b with
   | false=>simp only [hc,cond_false] at he; cases he; exact ⟨_,.inr hx,.inl rfl⟩
   | true =>
    simp only [hc,cond_true] at he
    cases he
    refine ⟨ds,.inr hx,?_⟩
    unfold bldCell
    split
    ·exact .inr ⟨by simpa using hc,rfl,rfl⟩
    ·exact .inl rfl
 refine ⟨setB B k (.row none 0 0),F,⟨fun q t es hm=>?_,fun q t es c hm hbk=>?_,fun i i' c hi hi'=>hbase.inj i i' c ?_ ?_,hbase.frz,hbase.more,hbase.grow,hbase.below,hbase.env⟩,hd,hs,fun x hx=>?_⟩
 ·obtain ⟨ds,h1,h2⟩:=hmem _ _ _ hm
  have hh:=hbase.boxes _ _ _ h1
  rcases h2 with rfl | ⟨rfl,rfl,rfl⟩
  ·exact hh
  ·cases hh with
   | box _ c vs h3 h4 h5 h6 h7 =>
    refine .box _ c vs h3 ?_ rfl h6 h7
    cases h4 with
    | cons _ v1 _ vs1 r1 rs =>
     cases rs with
     | cons _ v2 _ vs2 r2 rs =>
      cases rs
      cases r1
      cases r2
      exact .cons _ _ _ _ (.opt _ c _ h3 (.inl rfl)) (.cons _ _ _ _ (.srow k none 0 0 hB') .nil)
 ·obtain ⟨ds,h1,_⟩:=hmem _ _ _ hm
  exact hbase.new _ _ _ _ h1 hbk
 ·obtain ⟨t,es,hm⟩:=hi
  obtain ⟨ds,h1,_⟩:=hmem _ _ _ hm
  exact ⟨_,_,h1⟩
 ·obtain ⟨t,es,hm⟩:=hi'
  obtain ⟨ds,h1,_⟩:=hmem _ _ _ hm
  exact ⟨_,_,h1⟩
 ·obtain ⟨v,h1,h2⟩:=hK x hx
  exact ⟨v,h1,h2.rebox k (setB_ne _ _ _) (hfK x hx)⟩
end
end Go.Proofs.YtibgdilkodjojaaGreatDoor.RX
