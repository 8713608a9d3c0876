import Derived.Test.YtefojkdckfidcaaGreatDoorQRxIZ
import Derived.Lib.IndexAny
import Derived.Laws.RangeAny
import Derived.Lib.OthersKept
import Derived.Shelf.RegionOpenPlain
import Derived.Deep.Draws
set_option linter.all false
namespace Go.Proofs.YtefojkdckfidcaaGreatDoor.Any11
open Go.Shelf Go.RowKit Go.Lib Go.Proofs
variable {P:Program} {ρ:Ren}
abbrev marks:ByteArray:=⟨#[34,39]⟩
set_option maxHeartbeats 4000000 in
set_option maxRecDepth 1000000 in
theorem Eg(L:Lays.n152 P ρ)(w:World) :
  Calls P (ρ.f 152) #[.string marks,.int .i32 65533] w fun e w'=>e=.returned (.int .i64 (-1))/\Below w.heap.size w w':=by
 have t3:=L.t3;have a3:=L.a3;have z3:=L.z3;have v3:=L.v3
 have t4:=L.t4;have a4:=L.a4;have z4:=L.z4;have v4:=L.v4
 have t5:=L.t5;have a5:=L.a5;have z5:=L.z5;have v5:=L.v5
 have t9:=L.t9;have a9:=L.a9;have z9:=L.z9;have v9:=L.v9
 have t21:=L.t21;have a21:=L.a21;have z21:=L.z21;have v21:=L.v21
 go_enter L.f152,Body.n152_ntmps ρ
 go_wp2
 go_loopg [5,6] 2 (fun g _ _ wx=>∃i:Nat,i+g=2/\wx=w.iter marks i)
 case atStart=>exact⟨0,by omega,rfl⟩
 case round =>
  obtain⟨i,hig,rfl⟩:=hrel
  cases gk with
  |zero =>
   obtain rfl:i=2:=by omega
   have hnx:=fun ty=>run_next_end (P:=P) w marks 2 ty (by decide)
   go_wp2
   go_ret
   exact⟨rfl,(Below.refl _ _).alloc (Nat.le_refl _) _⟩
  |succ g =>
   have hi:i<marks.size:=by show i<2;omega
   obtain⟨x,hx⟩:∃x:UInt8,marks[i]'hi=x:=⟨_,rfl⟩
   have hx128:x.toNat<128:=by
    have:i=0\/i=1:=by omega
    rcases this with rfl|rfl<;>(rw[<-hx];first|exact(by decide:(34:UInt8).toNat<128)|exact(by decide:(39:UInt8).toNat<128))
   have hnx:=fun ty=>run_next_ascii (P:=P) w marks i ty hi (by rw[hx];exact hx128)
   rw[hx] at hnx
   have hne:((x.toNat:Int)==65533)=false:=beq_eq_false_iff_ne.2 (by omega)
   clear hx
   go_wp2
   go_roundg g
   case measure=>omega
   case rel=>exact⟨i+1,by omega,rfl⟩
set_option maxHeartbeats 4000000 in
set_option maxRecDepth 1000000 in
theorem Ed(L:Lays.n152 P ρ)(r:Int)(w:World)(h0:128<=r)(h1:r<=2147483647)(hne:r≠65533)(hv:Lib.validRune r=false) :
  Calls P (ρ.f 152) #[.string marks,.int .i32 r] w fun e w'=>e=.returned (.int .i64 (-1))/\Below w.heap.size w w':=by
 have t3:=L.t3;have a3:=L.a3;have z3:=L.z3;have v3:=L.v3
 have t4:=L.t4;have a4:=L.a4;have z4:=L.z4;have v4:=L.v4
 have t5:=L.t5;have a5:=L.a5;have z5:=L.z5;have v5:=L.v5
 have t9:=L.t9;have a9:=L.a9;have z9:=L.z9;have v9:=L.v9
 have t21:=L.t21;have a21:=L.a21;have z21:=L.z21;have v21:=L.v21
 have e119:∀args w,(callFunc (ρ.f 119) args).run P w=.ok (.enter (ρ.f 119) args) w:=enters_of L.f119 (by kernel_rfl) rfl
 have hz:¬r<128:=by omega
 have hd:(r==65533)=false:=beq_eq_false_iff_ne.2 hne
 go_enter L.f152,Body.n152_ntmps ρ
 go_wp2_with (go_at_fn (ρ.f 119);refine(Any.utf8_ValidRune { L with } r w).mono ?_;rintro e w' ⟨rfl,hw⟩;rw[hw,hv])
 go_ret
 exact⟨rfl,Below.refl _ _⟩
theorem LA(r:Int)(h0:128<=r)(hv:Lib.validRune r=true):(∃a b:UInt8,Utf8.encode r=⟨#[a,b]⟩/\128<=b.toNat)\/(3<=(Utf8.encode r).size/\(Utf8.encode r).size<=4):=by
 unfold Lib.validRune at hv
 have hv:=of_decide_eq_true hv
 have e:Utf8.valid r=true:=by
  unfold Utf8.valid
  rw[Bool.or_eq_true,Bool.and_eq_true,Bool.and_eq_true,decide_eq_true_eq,decide_eq_true_eq,decide_eq_true_eq,decide_eq_true_eq]
  omega
 unfold Utf8.encode
 rw[e,if_pos rfl]
 by_cases h1:r.toNat<0x80
 ·omega
 ·rw[if_neg h1]
  by_cases h2:r.toNat<0x800
  ·rw[if_pos h2]
   refine .inl ⟨_,_,rfl,?_⟩
   show 128<=(UInt8.ofNat (0x80+r.toNat % 64)).toNat
   rw[UInt8.toNat_ofNat']
   omega
  ·rw[if_neg h2]
   right
   split
   ·exact⟨Nat.le_refl 3,by show 3<=4;omega⟩
   ·exact⟨by show 3<=4;omega,Nat.le_refl 4⟩
set_option maxHeartbeats 4000000 in
set_option maxRecDepth 1000000 in
theorem Ea(L:Lays.n152 P ρ)(r:Int)(w:World)(h0:128<=r)(h1:r<=2147483647)(hne:r≠65533)(hv:Lib.validRune r=true)(hs3:3<=(Utf8.encode r).size)(hs4:(Utf8.encode r).size<=4) :
  Calls P (ρ.f 152) #[.string marks,.int .i32 r] w fun e w'=>e=.returned (.int .i64 (-1))/\Below w.heap.size w w':=by
 have t3:=L.t3;have a3:=L.a3;have z3:=L.z3;have v3:=L.v3
 have t4:=L.t4;have a4:=L.a4;have z4:=L.z4;have v4:=L.v4
 have t5:=L.t5;have a5:=L.a5;have z5:=L.z5;have v5:=L.v5
 have t9:=L.t9;have a9:=L.a9;have z9:=L.z9;have v9:=L.v9
 have t21:=L.t21;have a21:=L.a21;have z21:=L.z21;have v21:=L.v21
 have e119:∀args w,(callFunc (ρ.f 119) args).run P w=.ok (.enter (ρ.f 119) args) w:=enters_of L.f119 (by kernel_rfl) rfl
 have hz:¬r<128:=by omega
 have hd:(r==65533)=false:=beq_eq_false_iff_ne.2 hne
 obtain⟨rs,hrs⟩:∃rs,Utf8.encode r=rs:=⟨_,rfl⟩
 rw[hrs] at hs3 hs4
 go_enter L.f152,Body.n152_ntmps ρ
 go_wp2_with (go_at_fn (ρ.f 119);refine(Any.utf8_ValidRune { L with } r w).mono ?_;rintro e w' ⟨rfl,hw⟩;rw[hw,hv])
 go_step3
 go_wp2
 go_loopg [9,10] 0 (fun _ i f wx=>i=Value.int .i64 ((rs.size:Int)-1)/\f=Value.int .i64 0/\wx=w)
 case atStart=>exact⟨rfl,rfl,rfl⟩
 case round =>
  obtain⟨rfl,rfl,rfl⟩:=hrel
  have hc:¬((rs.size:Int)-1<2):=by omega
  go_wp2
  try rw[Exit.noGoto_ret]
  go_ret
  exact⟨rfl,Below.refl _ _⟩
theorem Qk{K K':Act->World->Prop}{Q:Exit->Act->World->Prop}{i j k:Nat}{a:Act}{w:World}(h:Exit.inBlock k Q .ret a w):Exit.inBlock i (Exit.then K (Exit.inBlock j (Exit.then K' (Exit.noGoto (Exit.inBlock k Q))))) .ret a w:=h
set_option maxHeartbeats 4000000 in
set_option maxRecDepth 1000000 in
theorem BQ(L:Lays.n152 P ρ)(r:Int)(w:World)(h0:128<=r)(h1:r<=2147483647)(hne:r≠65533)(hv:Lib.validRune r=true)(a b:UInt8)(hrs:Utf8.encode r=⟨#[a,b]⟩)(hb:128<=b.toNat) :
  Calls P (ρ.f 152) #[.string marks,.int .i32 r] w fun e w'=>e=.returned (.int .i64 (-1))/\Below w.heap.size w w':=by
 have t3:=L.t3;have a3:=L.a3;have z3:=L.z3;have v3:=L.v3
 have t4:=L.t4;have a4:=L.a4;have z4:=L.z4;have v4:=L.v4
 have t5:=L.t5;have a5:=L.a5;have z5:=L.z5;have v5:=L.v5
 have t9:=L.t9;have a9:=L.a9;have z9:=L.z9;have v9:=L.v9
 have t21:=L.t21;have a21:=L.a21;have z21:=L.z21;have v21:=L.v21
 have e119:∀args w,(callFunc (ρ.f 119) args).run P w=.ok (.enter (ρ.f 119) args) w:=enters_of L.f119 (by kernel_rfl) rfl
 have e137:∀args w,(callFunc (ρ.f 137) args).run P w=.ok (.enter (ρ.f 137) args) w:=enters_of L.f137 (by kernel_rfl) rfl
 have hz:¬r<128:=by omega
 have hd:(r==65533)=false:=beq_eq_false_iff_ne.2 hne
 go_enter L.f152,Body.n152_ntmps ρ
 go_wp2_with (go_at_fn (ρ.f 119);refine(Any.utf8_ValidRune { L with } r w).mono ?_;rintro e w' ⟨rfl,hw⟩;rw[hw,hv])
 go_step3
 go_wp2
 go_loopg [9,10] 0 (fun _ i f wx=>i=Value.int .i64 1/\f=Value.int .i64 0/\wx=w)
 case atStart=>exact⟨rfl,rfl,rfl⟩
 case round =>
  obtain⟨rfl,rfl,rfl⟩:=hrel
  have hm:=L.mixed
  have e39:(marks[1]'(by decide)).toNat=39:=rfl
  have eb:(({ data:=#[a,b] }:ByteArray)[1]'(by show 1<2;decide)).toNat=b.toNat:=rfl
  go_wp2
  go_step3
  go_wp2_with fail
  go_region_o
  go_wp2
  all_goals try (exfalso;omega)
  go_region_with_o (go_at_fn (ρ.f 137);refine(Any.strings_IndexByte { L with } _ _ _).mono ?_;rintro e w' ⟨rfl,hw⟩;rw[hw])
  all_goals
   have hib:Lib.indexByte [] b=-1:=rfl
   have hlt:Lib.indexByte [] b<0:=by rw[hib];decide
   go_wp2
   rw[Exit.noGoto_ret]
   refine Qk ?_
   go_ret
   exact⟨rfl,⟨rfl,rfl,rfl,Nat.le_refl _,fun _ _=>rfl⟩⟩
theorem CJ(L:Lays.n152 P ρ)(r:Int)(w:World)(h0:128<=r)(h1:r<=2147483647) :
  Calls P (ρ.f 152) #[.string marks,.int .i32 r] w fun e w'=>e=.returned (.int .i64 (-1))/\Below w.heap.size w w':=by
 by_cases he:r=65533
 ·subst he;exact Eg L w
 cases hv:Lib.validRune r with
 |false=>exact Ed L r w h0 h1 he hv
 |true =>
  rcases LA r h0 hv with⟨a,b,hrs,hb⟩|⟨h3,h4⟩
  ·exact BQ L r w h0 h1 he hv a b hrs hb
  ·exact Ea L r w h0 h1 he hv h3 h4
theorem Ql{s:ByteArray}{j:Nat}{b:UInt8}(h:s.data.toList[j]? = some b):s.get! j=b:=by
 have h2:s.data[j]? = some b:=by rw[<-Array.getElem?_toList];exact h
 show s.data[j]! = b
 rw[getElem!_def,h2]
theorem EO(s:ByteArray)(i:Nat)(h:i<s.size)(ha:128<=(s[i]'h).toNat):i+(Utf8.decode s i).2<=s.size/\∀j b,i<=j->j<i+(Utf8.decode s i).2->s.data.toList[j]? = some b->128<=b.toNat:=by
 have key:∃n,(Utf8.decode s i).2=n+1/\∀k,1<=k->k<=n->i+k<s.size/\(s.get! (i+k)).toNat / 64=2:=by
  simp only[Utf8.decode]
  split
  ·exact⟨0,rfl,fun k a b=>by omega⟩
  ·split
   ·rename_i h1
    simp only[Bool.and_eq_true,decide_eq_true_eq,beq_iff_eq] at h1
    split
    ·refine⟨1,rfl,fun k a b=>?_⟩
     obtain rfl:k=1:=by omega
     exact h1.2
    ·exact⟨0,rfl,fun k a b=>by omega⟩
   ·split
    ·rename_i h1
     simp only[Bool.and_eq_true,decide_eq_true_eq,beq_iff_eq] at h1
     split
     ·refine⟨2,rfl,fun k a b=>?_⟩
      have:k=1\/k=2:=by omega
      rcases this with rfl|rfl
      ·exact h1.1.2
      ·exact h1.2
     ·exact⟨0,rfl,fun k a b=>by omega⟩
    ·split
     ·rename_i h1
      simp only[Bool.and_eq_true,decide_eq_true_eq,beq_iff_eq] at h1
      split
      ·refine⟨3,rfl,fun k a b=>?_⟩
       have:k=1\/k=2\/k=3:=by omega
       rcases this with rfl|rfl|rfl
       ·exact h1.1.1.2
       ·exact h1.1.2
       ·exact h1.2
      ·exact⟨0,rfl,fun k a b=>by omega⟩
     ·exact⟨0,rfl,fun k a b=>by omega⟩
 obtain⟨n,hn,hk⟩:=key
 rw[hn]
 refine⟨?_,fun j b h1 h2 hb=>?_⟩
 ·by_cases h0:n=0
  ·omega
  ·have:=(hk n (by omega) (Nat.le_refl _)).1;omega
 ·by_cases h3:j=i
  ·subst h3
   have e:s.data.toList[j]? = some (s[j]'h):=Lib.data_getElem? s j h
   rw[e] at hb;cases hb;exact ha
  ·obtain⟨k,rfl⟩:∃k,j=i+k:=⟨j-i,by omega⟩
   have:=(hk k (by omega) (by omega)).2
   rw[Ql hb] at this
   omega
theorem JL{s:ByteArray}{i:Nat}(h:i<s.size)(ha:128<=(s[i]'h).toNat)(hn:Lib.NoAny s.data.toList [34,39] i):Lib.NoAny s.data.toList [34,39] (i+(Utf8.decode s i).2):=fun j b hj hb=>by
 by_cases h1:j<i
 ·exact hn j b h1 hb
 ·have:=(EO s i h ha).2 j b (by omega) hj hb
  rw[Bool.eq_false_iff]
  intro hc
  have hm:=List.contains_iff_mem.1 hc
  rcases List.mem_cons.1 hm with rfl|hm
  ·exact absurd this (by decide)
  ·rw[List.mem_singleton.1 hm] at this;exact absurd this (by decide)
set_option maxHeartbeats 8000000 in
set_option maxRecDepth 1000000 in
theorem Cj(L:Lays.n153 P ρ)(s:ByteArray)(w:World)(h8:s.size<=8) :
  Calls P (ρ.f 153) #[.string s,.string marks] w fun e w'=>e=.returned (.int .i64 (Lib.indexAny s.data.toList [34,39]))/\Below w.heap.size w w':=by
 have h8z:decide ((8:Int)<(s.size:Int))=false:=decide_eq_false (by omega)
 have t3:=L.t3;have a3:=L.a3;have z3:=L.z3;have v3:=L.v3
 have t4:=L.t4;have a4:=L.a4;have z4:=L.z4;have v4:=L.v4
 have t5:=L.t5;have a5:=L.a5;have z5:=L.z5;have v5:=L.v5
 have t9:=L.t9;have a9:=L.a9;have z9:=L.z9;have v9:=L.v9
 have t21:=L.t21;have a21:=L.a21;have z21:=L.z21;have v21:=L.v21
 have e152:∀args w,(callFunc (ρ.f 152) args).run P w=.ok (.enter (ρ.f 152) args) w:=enters_of L.f152 (by kernel_rfl) rfl
 have e226:∀args w,(callFunc (ρ.f 226) args).run P w=.ok (.enter (ρ.f 226) args) w:=enters_of L.f226 (by kernel_rfl) rfl
 go_enter L.f153,Body.n153_ntmps ρ
 go_wp2_with (go_at_fn (ρ.f 226);refine(Any.strings_shouldUseASCIISet { L with } _ _).mono ?_;rintro e w' ⟨rfl,hw⟩;rw[hw,h8z])
 go_loopg [9,10] s.size (fun g _ _ wx=>∃i:Nat,i<=s.size/\s.size<=i+g/\wx.heap[w.heap.size]? = some (.stringIter s i)/\Below w.heap.size w wx/\Lib.NoAny s.data.toList [34,39] i)
 case atStart=>exact⟨0,Nat.zero_le _,by omega,World.iter_heap ..,(Below.refl _ _).alloc (Nat.le_refl _) _,Lib.NoAny.zero _ _⟩
 case round =>
  obtain⟨i,hi1,hi2,hit,hbw,hno⟩:=hrel
  have HN:Aside (Lib.NoAny s.data.toList [34,39] i):=hno
  have HB:Aside (Below w.heap.size w wr):=hbw
  have hlen:w.heap.size<wr.heap.size:=(Array.getElem?_eq_some_iff.1 hit).1
  clear hno hbw
  by_cases hlt:i<s.size
  ·obtain⟨g',rfl⟩:∃g',gk=g'+1:=⟨gk-1,by omega⟩
   obtain⟨x,hx⟩:∃x:UInt8,s[i]'hlt=x:=⟨_,rfl⟩
   have hxl:s.data.toList[i]? = some x:=by rw[<-hx];exact Lib.data_getElem? s i hlt
   by_cases h128:x.toNat<128
   ·have hnx:=fun ty=>Lib.run_next_ascii_at (P:=P) wr w.heap.size s i ty hit hlt (by rw[hx];exact h128)
    rw[hx] at hnx
    have hcon:=Lib.contains_iff_indexByte [34,39] x
    have hback:((x.toNat:Int)).toNat.toUInt8=x:=by simp
    have hit2:=Lib.iterAt_heap wr w.heap.size s i (i+1) hit
    have hbi:Below w.heap.size w (wr.iterAt w.heap.size s (i+1)):=Lib.below_iterAt HB.out (Nat.le_refl _) s (i+1)
    have Hx:Aside (s.data.toList[i]? = some x):=hxl
    clear hxl hx
    cases hin:([34,39]:Bs).contains x
    ·rw[hin] at hcon
     have hge:¬((0:Int)<=Lib.indexByte [34,39] x):=of_decide_eq_false hcon.symm
     clear hcon
     go_wp2_with (go_at_fn (ρ.f 152);refine(Any.strings_IndexRune_ascii { L with } marks _ _ (by omega) (by omega)).mono ?_;rintro e w' ⟨rfl,hw⟩;rw[hw,hback])
     go_roundg g'
     case measure=>omega
     case rel=>exact⟨i+1,by omega,by omega,hit2,hbi,HN.out.succ Hx.out hin⟩
    ·rw[hin] at hcon
     have hge:(0:Int)<=Lib.indexByte [34,39] x:=of_decide_eq_true hcon.symm
     clear hcon
     go_wp2_with (go_at_fn (ρ.f 152);refine(Any.strings_IndexRune_ascii { L with } marks _ _ (by omega) (by omega)).mono ?_;rintro e w' ⟨rfl,hw⟩;rw[hw,hback])
     go_ret
     exact⟨by rw[Lib.indexAny_hit HN.out Hx.out hin];rfl,hbi⟩
   ·have hhi:128<=(s[i]'hlt).toNat:=by rw[hx];omega
    obtain⟨d1,d2⟩:=decode_high s i hlt hhi
    have hle:=decode_le s i
    have hsp:=(EO s i hlt hhi).1
    have hnx:=fun ty=>Lib.run_next_any_at (P:=P) wr w.heap.size s i ty hit hlt
    have hit2:=Lib.iterAt_heap wr w.heap.size s i (i+(Utf8.decode s i).2) hit
    have hbi:Below w.heap.size w (wr.iterAt w.heap.size s (i+(Utf8.decode s i).2)):=Lib.below_iterAt HB.out (Nat.le_refl _) s (i+(Utf8.decode s i).2)
    have hsz:=Lib.iterAt_size wr w.heap.size s (i+(Utf8.decode s i).2)
    have HN2:Aside (Lib.NoAny s.data.toList [34,39] (i+(Utf8.decode s i).2)):=JL hlt hhi HN.out
    clear hxl hx hhi HN
    revert d1 d2 hle hsp hnx hit2 hbi hsz HN2
    generalize (Utf8.decode s i).1=c
    generalize (Utf8.decode s i).2=wd
    intro d1 d2 hle hsp hnx hit2 hbi hsz HN2
    revert hnx hit2 hbi hsz
    generalize wr.iterAt w.heap.size s (i+wd)=W1
    intro hnx hit2 hbi hsz
    go_wp2_with (go_at_fn (ρ.f 152);refine(CJ { L with } _ _ (by omega) (by omega)).mono ?_;rintro e w' ⟨rfl,hb⟩)
    go_roundg g'
    case measure=>omega
    case rel=>exact⟨i+wd,by omega,by omega,(hb.block _ (by rw[hsz];omega)).trans hit2,hbi.trans (hb.mono (by rw[hsz];omega)),HN2.out⟩
  ·obtain rfl:i=s.size:=by omega
   have hnx:=fun ty=>Lib.run_next_end_at (P:=P) wr w.heap.size s s.size ty hit hlt
   go_wp2
   go_ret
   exact⟨by rw[Lib.indexAny_none (by rw[<-Lib.size_eq];exact HN.out)];rfl,HB.out⟩
set_option maxHeartbeats 4000000 in
theorem containsAny(L:Lays.n150 P ρ)(hv116:∀w,(zeroValue (ρ.t 116)).run P w=.ok (.agg (Array.replicate 256 (.bool false))) w)(hi116:(P.info? (ρ.t 116)).map (·.size)=some 256)(s:ByteArray)(w:World)(hs:s.size<4294967281) :
  Calls P (ρ.f 150) #[.string s,.string marks] w fun e w'=>e=.returned (.bool (Lib.containsAny s.data.toList [34,39]))/\Below w.heap.size w w':=by
 have c:Calls P (ρ.f 153) #[.string s,.string marks] w fun e w'=>e=.returned (.int .i64 (Lib.indexAny s.data.toList [34,39]))/\Below w.heap.size w w':=by
  by_cases h8:s.size<=8
  ·exact Cj { L with } s w h8
  ·refine(Any.strings_IndexAny_long { L with } hv116 hi116 s marks w (by decide) (by omega) hs (by decide) (fun j b hb=>?_)).mono fun e w' ⟨h1,h2⟩=>⟨h1,?_⟩
   ·have hm:=List.mem_of_getElem? hb
    rcases List.mem_cons.1 hm with rfl|hm
    ·decide
    ·rw[List.mem_singleton.1 hm];decide
   ·rw[h2]
    exact((Below.refl _ _).alloc (Nat.le_refl _) _).alloc (by simp) _
 have t3:=L.t3;have a3:=L.a3;have z3:=L.z3;have v3:=L.v3
 have t4:=L.t4;have a4:=L.a4;have z4:=L.z4;have v4:=L.v4
 have t9:=L.t9;have a9:=L.a9;have z9:=L.z9;have v9:=L.v9
 have e153:∀args w,(callFunc (ρ.f 153) args).run P w=.ok (.enter (ρ.f 153) args) w:=enters_of L.f153 (by kernel_rfl) rfl
 go_enter L.f150,Body.n150_ntmps ρ
 go_wp2_with (go_at_fn (ρ.f 153);refine c.mono ?_;rintro e w' ⟨rfl,hw⟩)
 go_ret
 exact⟨rfl,hw⟩
end Go.Proofs.YtefojkdckfidcaaGreatDoor.Any11
namespace Go.Proofs.YtefojkdckfidcaaGreatDoor.M.Sh
open Go.RowKit Go.Proofs.YtefojkdckfidcaaGreatDoor.RX
theorem KH:(Tryz.prog.info? (Tryz.y8.t 116)).map (fun i=>(i.zero,i.size))=some (some (.agg (Array.replicate 256 (.bool false))),256):=by kernel_rfl
theorem OU{a:Bs}(h:decide (List.length a<4294967281)=true):bC Tryz.prog 50 [.str a,.str [34,39]] (.val (.bool (Lib.containsAny a [34,39]))):=by
 refine yr ⟨Tryz.f50,by kernel_rfl,by kernel_rfl,by kernel_rfl⟩ fun F w args hsh hr=>?_
 rw[Am hr]
 refine(Any11.containsAny Tryz.PT (Go.zero_of_info KH).1 (Go.zero_of_info KH).2 ⟨a.toArray⟩ w (by rw[Jl];exact of_decide_eq_true h)).mono ?_
 rintro e w' ⟨rfl,hb⟩
 exact⟨_,rfl,fun F' w''=>.val _ rfl,hb⟩
end Go.Proofs.YtefojkdckfidcaaGreatDoor.M.Sh
