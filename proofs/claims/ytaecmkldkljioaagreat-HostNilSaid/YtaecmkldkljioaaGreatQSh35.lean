import Derived.Test.YtaecmkldkljioaaGreatQRxShelf
import Derived.Test.YtaecmkldkljioaaGreatQRxLib
import Derived.Lib.RowBridge
import Derived.Test.YtaecmkldkljioaaGreatQRxKeysI
import Derived.Shelf.Small.Bits
import Derived.Shelf.Small.Wraps
import Derived.Shelf.Strconv.Itoa0
import Derived.Shelf.Sort.Plain
import Derived.Shelf.Slices.Turned
import Derived.Ground.Names2Prog
import Derived.Shelf.Slices.Clone
import Derived.Shelf.Slices.SearchI
import Derived.Shelf.Slices.In.SortNone
import Derived.Ground.SlgnProg
import Derived.Shelf.SlicesE.Clone
import Derived.Shelf.SlGeneric
import Derived.Shelf.SlIter.Nil
import Derived.Shelf.SortM.Plain
import Derived.Shelf.SortM.SortNone
import Derived.Ground.GgzProg
import Derived.Ground.SlgmProg
import Derived.Shelf.SlIterI.Sorted
import Derived.Test.YtaecmkldkljioaaGreatProg
set_option linter.all false
namespace Go.Proofs
open Go.Shelf
def Tryz.keys62_ren:Go.Shelf.Ren:=⟨fun | 7=>62 | 10=>97 | n=>n,fun | 23=>105 | 26=>3 | 3=>53 | 28=>125 | 0=>0 | 27=>124 | 33=>181 | 4=>4 | n=>n,fun | n=>n⟩
theorem Tryz.keys62:Go.Proofs.SlLaysZI.n7 Tryz.prog Tryz.keys62_ren:={
  mixed:=by kernel_rfl
  f7:=⟨Tryz.f62.name,by decide,Tryz.func62.trans (congrArg some (by kernel_rfl))⟩
  f10:=⟨Tryz.f97.name,by decide,Tryz.func97.trans (congrArg some (by kernel_rfl))⟩
  t0:=Tryz.underlying0
  a0:=Tryz.isAgg0
  z0:=Tryz.sizeOf0
  v0:=Tryz.zeroValue0
  t4:=Tryz.underlying4
  a4:=Tryz.isAgg4
  z4:=Tryz.sizeOf4
  v4:=Tryz.zeroValue4
  t23:=Tryz.underlying105
  a23:=Tryz.isAgg105
  z23:=Tryz.sizeOf105
  v23:=Tryz.zeroValue105
  t26:=Tryz.underlying3
  a26:=Tryz.isAgg3
  z26:=Tryz.sizeOf3
  v26:=Tryz.zeroValue3
  t27:=Tryz.underlying124
  a27:=Tryz.isAgg124
  z27:=Tryz.sizeOf124
  v27:=Tryz.zeroValue124
  t28:=Tryz.underlying125
  a28:=Tryz.isAgg125
  z28:=Tryz.sizeOf125
  v28:=Tryz.zeroValue125
  t33:=Tryz.underlying181
  a33:=Tryz.isAgg181
  z33:=Tryz.sizeOf181
  v33:=Tryz.zeroValue181 }
def Tryz.sorted61_ren:Go.Shelf.Ren:=⟨fun | 6=>61 | 8=>95 | 9=>96 | 11=>123 | 13=>125 | 12=>124 | 23=>153 | 24=>154 | 14=>144 | 15=>145 | 16=>146 | 17=>147 | 18=>148 | 19=>149 | 20=>150 | 21=>151 | 22=>152 | 25=>161 | 26=>162 | 27=>163 | 28=>164 | 29=>165 | 30=>160 | 31=>177 | n=>n,fun | 26=>3 | 28=>125 | 24=>122 | 0=>0 | 3=>3 | 37=>212 | 48=>237 | 50=>239 | 4=>4 | 40=>229 | 39=>228 | 45=>234 | 5=>5 | 9=>9 | 51=>243 | 55=>247 | 57=>257 | 58=>258 | 33=>181 | n=>n,fun | n=>n⟩
theorem Tryz.sorted61:Go.Proofs.SlLaysZI.n6 Tryz.prog Tryz.sorted61_ren:={
  mixed:=by kernel_rfl
  f6:=⟨Tryz.f61.name,by decide,Tryz.func61.trans (congrArg some (by kernel_rfl))⟩
  f8:=⟨Tryz.f95.name,by decide,Tryz.func95.trans (congrArg some (by kernel_rfl))⟩
  f11:=⟨Tryz.f123.name,by decide,Tryz.func123.trans (congrArg some (by kernel_rfl))⟩
  t0:=Tryz.underlying0
  a0:=Tryz.isAgg0
  z0:=Tryz.sizeOf0
  v0:=Tryz.zeroValue0
  t24:=Tryz.underlying122
  a24:=Tryz.isAgg122
  z24:=Tryz.sizeOf122
  v24:=Tryz.zeroValue122
  t26:=Tryz.underlying3
  a26:=Tryz.isAgg3
  z26:=Tryz.sizeOf3
  v26:=Tryz.zeroValue3
  t28:=Tryz.underlying125
  a28:=Tryz.isAgg125
  z28:=Tryz.sizeOf125
  v28:=Tryz.zeroValue125
  i26:=by kernel_rfl }
def Tryz.sort96_ren:Go.Shelf.Ren:=⟨fun | 5=>96 | 8=>125 | 7=>124 | 19=>153 | 20=>154 | 10=>144 | 11=>145 | 12=>146 | 13=>147 | 14=>148 | 15=>149 | 16=>150 | 17=>151 | 18=>152 | 30=>161 | 31=>162 | 32=>163 | 33=>164 | 34=>165 | 35=>160 | 40=>177 | n=>n,fun | 23=>122 | 25=>3 | 3=>3 | 32=>212 | 22=>122 | 0=>0 | 44=>237 | 46=>239 | 4=>4 | 36=>229 | 35=>228 | 41=>234 | 5=>5 | 9=>9 | 53=>243 | 57=>247 | 63=>257 | 64=>258 | n=>n,fun | n=>n⟩
theorem Tryz.sort96:Go.Proofs.SlLaysM.n5 Tryz.prog Tryz.sort96_ren:={
  mixed:=by kernel_rfl
  f5:=⟨Tryz.f96.name,by decide,Tryz.func96.trans (congrArg some (by kernel_rfl))⟩
  f7:=⟨Tryz.f124.name,by decide,Tryz.func124.trans (congrArg some (by kernel_rfl))⟩
  f8:=Tryz.func125.trans (congrArg some (by kernel_rfl))
  f10:=⟨Tryz.f144.name,by decide,Tryz.func144.trans (congrArg some (by kernel_rfl))⟩
  f11:=⟨Tryz.f145.name,by decide,Tryz.func145.trans (congrArg some (by kernel_rfl))⟩
  f12:=⟨Tryz.f146.name,by decide,Tryz.func146.trans (congrArg some (by kernel_rfl))⟩
  f13:=⟨Tryz.f147.name,by decide,Tryz.func147.trans (congrArg some (by kernel_rfl))⟩
  f14:=⟨Tryz.f148.name,by decide,Tryz.func148.trans (congrArg some (by kernel_rfl))⟩
  f15:=⟨Tryz.f149.name,by decide,Tryz.func149.trans (congrArg some (by kernel_rfl))⟩
  f16:=⟨Tryz.f150.name,by decide,Tryz.func150.trans (congrArg some (by kernel_rfl))⟩
  f17:=⟨Tryz.f151.name,by decide,Tryz.func151.trans (congrArg some (by kernel_rfl))⟩
  f18:=⟨Tryz.f152.name,by decide,Tryz.func152.trans (congrArg some (by kernel_rfl))⟩
  f19:=Tryz.func153.trans (congrArg some (by kernel_rfl))
  f20:=Tryz.func154.trans (congrArg some (by kernel_rfl))
  f30:=⟨Tryz.f161.name,by decide,Tryz.func161.trans (congrArg some (by kernel_rfl))⟩
  f31:=Tryz.func162.trans (congrArg some (by kernel_rfl))
  f32:=Tryz.func163.trans (congrArg some (by kernel_rfl))
  f33:=⟨Tryz.f164.name,by decide,Tryz.func164.trans (congrArg some (by kernel_rfl))⟩
  f34:=⟨Tryz.f165.name,by decide,Tryz.func165.trans (congrArg some (by kernel_rfl))⟩
  f35:=⟨Tryz.f160.name,by decide,Tryz.func160.trans (congrArg some (by kernel_rfl))⟩
  f40:=⟨Tryz.f177.name,by decide,Tryz.func177.trans (congrArg some (by kernel_rfl))⟩
  t0:=Tryz.underlying0
  a0:=Tryz.isAgg0
  z0:=Tryz.sizeOf0
  v0:=Tryz.zeroValue0
  t3:=Tryz.underlying3
  a3:=Tryz.isAgg3
  z3:=Tryz.sizeOf3
  v3:=Tryz.zeroValue3
  t4:=Tryz.underlying4
  a4:=Tryz.isAgg4
  z4:=Tryz.sizeOf4
  v4:=Tryz.zeroValue4
  t5:=Tryz.underlying5
  a5:=Tryz.isAgg5
  z5:=Tryz.sizeOf5
  v5:=Tryz.zeroValue5
  t9:=Tryz.underlying9
  a9:=Tryz.isAgg9
  z9:=Tryz.sizeOf9
  v9:=Tryz.zeroValue9
  t22:=Tryz.underlying122
  a22:=Tryz.isAgg122
  z22:=Tryz.sizeOf122
  v22:=Tryz.zeroValue122
  t23:=Tryz.underlying122
  a23:=Tryz.isAgg122
  z23:=Tryz.sizeOf122
  v23:=Tryz.zeroValue122
  t25:=Tryz.underlying3
  a25:=Tryz.isAgg3
  z25:=Tryz.sizeOf3
  v25:=Tryz.zeroValue3
  t32:=Tryz.underlying212
  a32:=Tryz.isAgg212
  z32:=Tryz.sizeOf212
  v32:=Tryz.zeroValue212
  t35:=Tryz.underlying228
  a35:=Tryz.isAgg228
  z35:=Tryz.sizeOf228
  v35:=Tryz.zeroValue228
  t36:=Tryz.underlying229
  a36:=Tryz.isAgg229
  z36:=Tryz.sizeOf229
  v36:=Tryz.zeroValue229
  t41:=Tryz.underlying234
  a41:=Tryz.isAgg234
  z41:=Tryz.sizeOf234
  v41:=Tryz.zeroValue234
  t44:=Tryz.underlying237
  a44:=Tryz.isAgg237
  z44:=Tryz.sizeOf237
  v44:=Tryz.zeroValue237
  t46:=Tryz.underlying239
  a46:=Tryz.isAgg239
  z46:=Tryz.sizeOf239
  v46:=Tryz.zeroValue239
  t53:=Tryz.underlying243
  a53:=Tryz.isAgg243
  z53:=Tryz.sizeOf243
  v53:=Tryz.zeroValue243
  t57:=Tryz.underlying247
  a57:=Tryz.isAgg247
  z57:=Tryz.sizeOf247
  v57:=Tryz.zeroValue247
  t63:=Tryz.underlying257
  a63:=Tryz.isAgg257
  z63:=Tryz.sizeOf257
  v63:=Tryz.zeroValue257
  t64:=Tryz.underlying258
  a64:=Tryz.isAgg258
  z64:=Tryz.sizeOf258
  v64:=Tryz.zeroValue258 }
open Go.RowKit Go.Maps Go.Sort in
theorem Tryz.sorts61 (m:Nat):AnyZI.SortsIn Tryz.prog Tryz.sorted61_ren Fence.wide m :=
  ⟨fun blk off cap ss W hH hblk hsz=>callsIn_wide.2 (AnyM.slices_Sort_int Tryz.sort96 blk off cap ss W hH hblk hsz),
   fun p cap W=>callsIn_wide.2 (AnyM.slices_Sort_int_none Tryz.sort96 p cap W)⟩
open Go.RowKit Go.Maps Go.Sort in
theorem Tryz.sorted_keys_61_97 {H:Type} (bb b nn:Nat) (D0:DataW H) (R:Value → Option (DataW H × List MemPlace)) (W:World) (hbb:bb < W.heap.size) (hcell:W.cell? ⟨bb,0,none⟩ = some (.map (some b))) (hown:W.ownsMap Tryz.prog 3 R b nn D0) (hmax:Maps.size D0 ≤ maxLen) (hbytes:Maps.size D0 * 8 ≤ 140737488355328) :
    CallsIn Fence.wide 5 Tryz.prog 61 #[.func (.func 97) #[] #[.pointer (some ⟨bb,0,none⟩)]] W fun e w'=>∃ (v:Value) (ss:List Int),e = .returned v ∧ ss.Perm (intKeys D0) ∧
      w'.ownsRow W.heap.size 3 1 v ss.length ((ss.mergeSort (fun x y=>decide (x ≤ y))).map encZ) ∧ (v = .slice none 0 0 ↔ ss = []) ∧ Below W.heap.size W w':=by
  have hseq:SeqGives Fence.wide 2 Tryz.prog 97 #[.pointer (some ⟨bb,0,none⟩)] encZ (fun ss=>ss.Perm (intKeys D0)) (Maps.size D0) W :=
    AnyZI.keys_gives (ρ:=Tryz.keys62_ren) { Tryz.keys62 with } Fence.wide _ trivial rfl (by omega) bb b nn D0 W hbb hcell hown
  exact AnyZI.sorted_in Tryz.sorted61 Fence.wide 5 trivial trivial trivial trivial rfl (by omega) (Tryz.sorts61 _) (enters_of Tryz.func96 (by kernel_rfl) rfl) 97 #[.pointer (some ⟨bb,0,none⟩)] trivial (enters_of Tryz.func97 (by kernel_rfl) rfl) _ _ hmax hbytes _ hseq
open Go.RowKit Go.Maps Go.Sort in
theorem Tryz.maps_Keys_62 (mb:Option Nat) (W:World):CallsIn Fence.wide 5 Tryz.prog 62 #[.map mb] W fun e w'=>e = .returned (.func (.func 97) #[] #[.pointer (some ⟨W.heap.size,0,none⟩)]) ∧ w' = W.alloc (.cells #[.map mb] 105) :=
  AnyZI.keys_in Tryz.keys62 Fence.wide 5 trivial rfl mb W
end Go.Proofs
namespace Go.Proofs.YtaecmkldkljioaaGreat.M.Sh
open Go.RowKit Go.Proofs.YtaecmkldkljioaaGreat.RX
theorem keys62 {ag:Bool} {α:Type} {d:α} {enc:α → List D} {l:List (MK × α)}:CallsB Tryz.prog 62 [.mp LIM] [(LIM,105,[.mapc (some .i64) ag d enc l])] (.fn 97 [.own 1 0]) [(LIM,105,[.mapc (some .i64) ag d enc l]),(1,105,[.mp LIM])]:=callsB_keys ⟨Tryz.f62,by kernel_rfl,by kernel_rfl,by kernel_rfl⟩ Tryz.maps_Keys_62
theorem sortedKeys61_97 {ag:Bool} {α:Type} {d:α} {enc:α → List D} {l:List (MK × α)} (h:keysOkI l = true):CallsB Tryz.prog 61 [.fn 97 [.own (LIM + 1) 0]] [(LIM,105,[.mapc (some .i64) ag d enc l]),(LIM + 1,105,[.mp LIM])] (.recs (α:=Int) 0 RX.encI (keysI l)) [(LIM,105,[.mapc (some .i64) ag d enc l]),(LIM + 1,105,[.mp LIM])]:=callsB_sortedKeysI ⟨Tryz.f61,by kernel_rfl,by kernel_rfl,by kernel_rfl⟩ (by kernel_rfl) (fun bb b nn D0 W h1 h2 h3 h4 h5=>Tryz.sorted_keys_61_97 bb b nn D0 anyR W h1 h2 h3 h4 h5) h
end Go.Proofs.YtaecmkldkljioaaGreat.M.Sh
