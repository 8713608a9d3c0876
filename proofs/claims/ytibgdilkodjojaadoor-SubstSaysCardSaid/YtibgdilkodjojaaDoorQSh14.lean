import Derived.Test.YtibgdilkodjojaaDoorQRxShelf
import Derived.Test.YtibgdilkodjojaaDoorQRxLib
import Derived.Lib.RowBridge
import Derived.Shelf.Strings.Builder1
import Derived.Shelf.Strings.Builder2
import Derived.Shelf.Strings.Trim
import Derived.Shelf.Small.Utf8
import Derived.Shelf.Small.Bits
import Derived.Shelf.Small.Strs
import Derived.Shelf.Small.Wraps
import Derived.Shelf.Strings.BuilderF
import Derived.Shelf.Strings.BuilderK
import Derived.Shelf.Utf8.RuneCount
import Derived.Shelf.Strings.Builder2Cap
import Derived.Shelf.Strconv.Itoa0
import Derived.Shelf.Strings.Search1
import Derived.Shelf.Strings.Search2
import Derived.Shelf.Strings.Search3
import Derived.Shelf.Strings.Cut
import Derived.Shelf.Strings.Count
import Derived.Shelf.LaysM
import Derived.Shelf.Strings.Shaped
import Derived.Shelf.Sort.Plain
import Derived.Shelf.Strings.Prefix
import Derived.Shelf.Strings.Split
import Derived.Shelf.Strings.Replace
import Derived.Shelf.Strings.SplitShaped
import Derived.Shelf.Unicode.Decode
import Derived.Shelf.Strings.Runes
import Derived.Shelf.Strings.RuneCount
import Derived.Shelf.Strings.AsciiSet
import Derived.Shelf.Unicode.DecodeSlow
import Derived.Shelf.Unicode.DecodeAny
import Derived.Shelf.Unicode.DecodeLast
import Derived.Shelf.Strings.BuilderCap
import Derived.Shelf.Slices.CompactS
import Derived.Shelf.Slices.Cells
import Derived.Shelf.Slices.In.SortNone
import Derived.Shelf.Spec.SlicesGrow
import Derived.Test.YtibgdilkodjojaaDoorProg
set_option linter.all false
namespace Go.Proofs
open Go.Shelf
def Tryd.lays155_ren:Go.Shelf.Ren:=⟨fun | 155=>33 | 154=>57 | 138=>88 | 165=>89 | 143=>90 | 166=>32 | 197=>91 | 169=>35 | 195=>122 | 218=>123 | 240=>56 | 241=>124 | 219=>92 | 260=>125 | 276=>87 | 277=>143 | 217=>126 | 225=>127 | 224=>128 | 267=>129 | 266=>144 | 314=>145 | n=>n,fun | 9=>9 | 3=>3 | 4=>4 | 72=>73 | 0=>0 | 76=>76 | 105=>134 | 21=>21 | 5=>5 | 70=>70 | 20=>20 | 37=>71 | 75=>75 | 127=>105 | 164=>130 | 46=>117 | 119=>174 | 139=>177 | 138=>176 | 146=>178 | 51=>155 | 80=>81 | n=>n,fun | 1=>0 | 3=>1 | 4=>2 | n=>n⟩
theorem Tryd.lays155:Go.Proofs.Lays.n155 Tryd.prog Tryd.lays155_ren:={
 mixed:=by kernel_rfl
 f138:=Tryd.func88.trans (congrArg some (by kernel_rfl))
 f143:=Tryd.func90.trans (congrArg some (by kernel_rfl))
 f154:=Tryd.func57.trans (congrArg some (by kernel_rfl))
 f155:=Tryd.func33.trans (congrArg some (by kernel_rfl))
 f165:=Tryd.func89.trans (congrArg some (by kernel_rfl))
 f166:=Tryd.func32.trans (congrArg some (by kernel_rfl))
 f169:=Tryd.func35.trans (congrArg some (by kernel_rfl))
 f195:=Tryd.func122.trans (congrArg some (by kernel_rfl))
 f197:=Tryd.func91.trans (congrArg some (by kernel_rfl))
 f217:=Tryd.func126.trans (congrArg some (by kernel_rfl))
 f218:=Tryd.func123.trans (congrArg some (by kernel_rfl))
 f219:=Tryd.func92.trans (congrArg some (by kernel_rfl))
 f224:=Tryd.func128.trans (congrArg some (by kernel_rfl))
 f225:=Tryd.func127.trans (congrArg some (by kernel_rfl))
 f240:=Tryd.func56.trans (congrArg some (by kernel_rfl))
 f241:=Tryd.func124.trans (congrArg some (by kernel_rfl))
 f260:=Tryd.func125.trans (congrArg some (by kernel_rfl))
 f266:=Tryd.func144.trans (congrArg some (by kernel_rfl))
 f267:=Tryd.func129.trans (congrArg some (by kernel_rfl))
 f276:=Tryd.func87.trans (congrArg some (by kernel_rfl))
 f277:=Tryd.func143.trans (congrArg some (by kernel_rfl))
 f314:=Tryd.func145.trans (congrArg some (by kernel_rfl))
 t0:=Tryd.underlying0
 a0:=Tryd.isAgg0
 z0:=Tryd.sizeOf0
 v0:=Tryd.zeroValue0
 t3:=Tryd.underlying3
 a3:=Tryd.isAgg3
 z3:=Tryd.sizeOf3
 v3:=Tryd.zeroValue3
 t4:=Tryd.underlying4
 a4:=Tryd.isAgg4
 z4:=Tryd.sizeOf4
 v4:=Tryd.zeroValue4
 t5:=Tryd.underlying5
 a5:=Tryd.isAgg5
 z5:=Tryd.sizeOf5
 v5:=Tryd.zeroValue5
 t9:=Tryd.underlying9
 a9:=Tryd.isAgg9
 z9:=Tryd.sizeOf9
 v9:=Tryd.zeroValue9
 t20:=Tryd.underlying20
 a20:=Tryd.isAgg20
 z20:=Tryd.sizeOf20
 v20:=Tryd.zeroValue20
 t21:=Tryd.underlying21
 a21:=Tryd.isAgg21
 z21:=Tryd.sizeOf21
 v21:=Tryd.zeroValue21
 t37:=Tryd.underlying71
 a37:=Tryd.isAgg71
 z37:=Tryd.sizeOf71
 v37:=Tryd.zeroValue71
 t46:=Tryd.underlying117
 a46:=Tryd.isAgg117
 z46:=Tryd.sizeOf117
 v46:=Tryd.zeroValue117
 t51:=Tryd.underlying155
 a51:=Tryd.isAgg155
 z51:=Tryd.sizeOf155
 v51:=Tryd.zeroValue155
 t70:=Tryd.underlying70
 a70:=Tryd.isAgg70
 z70:=Tryd.sizeOf70
 v70:=Tryd.zeroValue70
 t72:=Tryd.underlying73
 a72:=Tryd.isAgg73
 z72:=Tryd.sizeOf73
 v72:=Tryd.zeroValue73
 t75:=Tryd.underlying75
 a75:=Tryd.isAgg75
 z75:=Tryd.sizeOf75
 v75:=Tryd.zeroValue75
 t76:=Tryd.underlying76
 a76:=Tryd.isAgg76
 z76:=Tryd.sizeOf76
 v76:=Tryd.zeroValue76
 t105:=Tryd.underlying134
 a105:=Tryd.isAgg134
 z105:=Tryd.sizeOf134
 v105:=Tryd.zeroValue134
 t119:=Tryd.underlying174
 a119:=Tryd.isAgg174
 z119:=Tryd.sizeOf174
 t127:=Tryd.underlying105
 a127:=Tryd.isAgg105
 z127:=Tryd.sizeOf105
 v127:=Tryd.zeroValue105
 t138:=Tryd.underlying176
 a138:=Tryd.isAgg176
 z138:=Tryd.sizeOf176
 v138:=Tryd.zeroValue176
 t139:=Tryd.underlying177
 a139:=Tryd.isAgg177
 z139:=Tryd.sizeOf177
 v139:=Tryd.zeroValue177
 t146:=Tryd.underlying178
 a146:=Tryd.isAgg178
 z146:=Tryd.sizeOf178
 v146:=Tryd.zeroValue178
 t164:=Tryd.underlying130
 a164:=Tryd.isAgg130
 z164:=Tryd.sizeOf130
 v164:=Tryd.zeroValue130
 g1:=by kernel_rfl
 g3:=by kernel_rfl
 g4:=by kernel_rfl }
theorem Tryd.Builder_Extra_155:Builder.Extra Tryd.prog Tryd.lays155_ren:={
 sizeBuilder:=by kernel_rfl
 liesBuilder:=by kernel_rfl
 t5:=Tryd.underlying5
 a5:=Tryd.isAgg5
 z5:=Tryd.sizeOf5
 v5:=Tryd.zeroValue5
 infoByte:=by kernel_rfl
 cellsByte:=by kernel_rfl
 sizeByte:=by kernel_rfl
 neB5:=by decide }
open Go.RowKit Go.Lib in
theorem Tryd.strings_ReplaceAll (s old new:ByteArray) (m:Int) (w:World) (hs:s.size < 4294967281) (hm:w.cell? ⟨0,0,none⟩ = some (.int .i64 m)) (h1:1 ≤ old.size) (hlen:s.size + Lib.countB s old * new.size ≤ 140737488355328) :
  Calls Tryd.prog 33 #[.string s,.string old,.string new] w fun e w' =>
   e = .returned (.string ⟨(Lib.replaceAll s.data.toList old.data.toList new.data.toList).toArray⟩) ∧ Below w.heap.size w w':=Any.strings_ReplaceAll Tryd.lays155 Tryd.Builder_Extra_155 s old new m w hs hm h1 hlen
def Tryd.laysM155_ren:Go.Shelf.Ren:=⟨fun | 155=>33 | 154=>57 | 138=>88 | 165=>89 | 143=>90 | 166=>32 | 197=>91 | 169=>35 | 195=>122 | 218=>123 | 240=>56 | 241=>124 | 219=>92 | 260=>125 | 276=>87 | 277=>143 | 217=>126 | 225=>127 | 224=>128 | 267=>129 | 266=>144 | 314=>145 | n=>n,fun | 9=>9 | 3=>3 | 4=>4 | 72=>73 | 0=>0 | 76=>76 | 105=>134 | 21=>21 | 5=>5 | 70=>70 | 20=>20 | 37=>71 | 75=>75 | 127=>105 | 164=>130 | 46=>117 | 119=>174 | 139=>177 | 138=>176 | 146=>178 | 51=>155 | 80=>81 | n=>n,fun | 1=>0 | 3=>1 | 4=>2 | n=>n⟩
theorem Tryd.laysM155:Go.Proofs.LaysM.n155 Tryd.prog Tryd.laysM155_ren:={
 mixed:=by kernel_rfl
 f138:=Tryd.func88.trans (congrArg some (by kernel_rfl))
 f143:=Tryd.func90.trans (congrArg some (by kernel_rfl))
 f154:=Tryd.func57.trans (congrArg some (by kernel_rfl))
 f155:=Tryd.func33.trans (congrArg some (by kernel_rfl))
 f165:=Tryd.func89.trans (congrArg some (by kernel_rfl))
 f166:=Tryd.func32.trans (congrArg some (by kernel_rfl))
 f169:=Tryd.func35.trans (congrArg some (by kernel_rfl))
 f195:=Tryd.func122.trans (congrArg some (by kernel_rfl))
 f197:=Tryd.func91.trans (congrArg some (by kernel_rfl))
 f217:=Tryd.func126.trans (congrArg some (by kernel_rfl))
 f218:=Tryd.func123.trans (congrArg some (by kernel_rfl))
 f219:=Tryd.func92.trans (congrArg some (by kernel_rfl))
 f224:=Tryd.func128.trans (congrArg some (by kernel_rfl))
 f225:=Tryd.func127.trans (congrArg some (by kernel_rfl))
 f240:=Tryd.func56.trans (congrArg some (by kernel_rfl))
 f241:=Tryd.func124.trans (congrArg some (by kernel_rfl))
 f260:=Tryd.func125.trans (congrArg some (by kernel_rfl))
 f266:=Tryd.func144.trans (congrArg some (by kernel_rfl))
 f267:=Tryd.func129.trans (congrArg some (by kernel_rfl))
 f276:=Tryd.func87.trans (congrArg some (by kernel_rfl))
 f277:=Tryd.func143.trans (congrArg some (by kernel_rfl))
 f314:=Tryd.func145.trans (congrArg some (by kernel_rfl))
 t0:=Tryd.underlying0
 a0:=Tryd.isAgg0
 z0:=Tryd.sizeOf0
 v0:=Tryd.zeroValue0
 t3:=Tryd.underlying3
 a3:=Tryd.isAgg3
 z3:=Tryd.sizeOf3
 v3:=Tryd.zeroValue3
 t4:=Tryd.underlying4
 a4:=Tryd.isAgg4
 z4:=Tryd.sizeOf4
 v4:=Tryd.zeroValue4
 t5:=Tryd.underlying5
 a5:=Tryd.isAgg5
 z5:=Tryd.sizeOf5
 v5:=Tryd.zeroValue5
 t9:=Tryd.underlying9
 a9:=Tryd.isAgg9
 z9:=Tryd.sizeOf9
 v9:=Tryd.zeroValue9
 t20:=Tryd.underlying20
 a20:=Tryd.isAgg20
 z20:=Tryd.sizeOf20
 v20:=Tryd.zeroValue20
 t21:=Tryd.underlying21
 a21:=Tryd.isAgg21
 z21:=Tryd.sizeOf21
 v21:=Tryd.zeroValue21
 t37:=Tryd.underlying71
 a37:=Tryd.isAgg71
 z37:=Tryd.sizeOf71
 v37:=Tryd.zeroValue71
 t46:=Tryd.underlying117
 a46:=Tryd.isAgg117
 z46:=Tryd.sizeOf117
 v46:=Tryd.zeroValue117
 t51:=Tryd.underlying155
 a51:=Tryd.isAgg155
 z51:=Tryd.sizeOf155
 v51:=Tryd.zeroValue155
 t70:=Tryd.underlying70
 a70:=Tryd.isAgg70
 z70:=Tryd.sizeOf70
 v70:=Tryd.zeroValue70
 t72:=Tryd.underlying73
 a72:=Tryd.isAgg73
 z72:=Tryd.sizeOf73
 v72:=Tryd.zeroValue73
 t75:=Tryd.underlying75
 a75:=Tryd.isAgg75
 z75:=Tryd.sizeOf75
 v75:=Tryd.zeroValue75
 t76:=Tryd.underlying76
 a76:=Tryd.isAgg76
 z76:=Tryd.sizeOf76
 v76:=Tryd.zeroValue76
 t105:=Tryd.underlying134
 a105:=Tryd.isAgg134
 z105:=Tryd.sizeOf134
 v105:=Tryd.zeroValue134
 t119:=Tryd.underlying174
 a119:=Tryd.isAgg174
 z119:=Tryd.sizeOf174
 t127:=Tryd.underlying105
 a127:=Tryd.isAgg105
 z127:=Tryd.sizeOf105
 v127:=Tryd.zeroValue105
 t138:=Tryd.underlying176
 a138:=Tryd.isAgg176
 z138:=Tryd.sizeOf176
 v138:=Tryd.zeroValue176
 t139:=Tryd.underlying177
 a139:=Tryd.isAgg177
 z139:=Tryd.sizeOf177
 v139:=Tryd.zeroValue177
 t146:=Tryd.underlying178
 a146:=Tryd.isAgg178
 z146:=Tryd.sizeOf178
 v146:=Tryd.zeroValue178
 t164:=Tryd.underlying130
 a164:=Tryd.isAgg130
 z164:=Tryd.sizeOf130
 v164:=Tryd.zeroValue130
 g1:=by kernel_rfl
 g3:=by kernel_rfl
 g4:=by kernel_rfl
 t80:=Tryd.underlying81
 a80:=Tryd.isAgg81
 z80:=Tryd.sizeOf81
 v80:=Tryd.zeroValue81
 i0:=by kernel_rfl
 i3:=by kernel_rfl
 i4:=by kernel_rfl
 i5:=by kernel_rfl
 i9:=by kernel_rfl
 i20:=by kernel_rfl
 i21:=by kernel_rfl
 i37:=by kernel_rfl
 i46:=by kernel_rfl
 i51:=by kernel_rfl
 i70:=by kernel_rfl
 i72:=by kernel_rfl
 i75:=by kernel_rfl
 i76:=by kernel_rfl
 i80:=by kernel_rfl
 i105:=by kernel_rfl
 i127:=by kernel_rfl
 i138:=by kernel_rfl
 i139:=by kernel_rfl
 i146:=by kernel_rfl
 i164:=by kernel_rfl
 m1:=by kernel_rfl
 s1_3:=fun w h=>Go.Proofs.cell_of_shapedOpen_int (zero:=#[.int .i64 0]) (t:=3) h (of_decide_eq_true (by kernel_rfl)) (by kernel_rfl) rfl (by kernel_rfl) (by kernel_rfl) Tryd.underlying3
 m3:=by kernel_rfl
 m4:=by kernel_rfl }
def Tryd.lays99_ren:Go.Shelf.Ren:=⟨fun | 99=>49 | 206=>79 | n=>n,fun | 9=>9 | 4=>4 | 3=>3 | n=>n,fun | n=>n⟩
theorem Tryd.lays99:Go.Proofs.Lays.n99 Tryd.prog Tryd.lays99_ren:={
 mixed:=by kernel_rfl
 f99:=Tryd.func49.trans (congrArg some (by kernel_rfl))
 f206:=Tryd.func79.trans (congrArg some (by kernel_rfl))
 t3:=Tryd.underlying3
 a3:=Tryd.isAgg3
 z3:=Tryd.sizeOf3
 v3:=Tryd.zeroValue3
 t4:=Tryd.underlying4
 a4:=Tryd.isAgg4
 z4:=Tryd.sizeOf4
 v4:=Tryd.zeroValue4
 t9:=Tryd.underlying9
 a9:=Tryd.isAgg9
 z9:=Tryd.sizeOf9
 v9:=Tryd.zeroValue9 }
open Go.RowKit Go.Lib in
theorem Tryd.strings_HasPrefix (s p:ByteArray) (w:World) :
  Calls Tryd.prog 49 #[.string s,.string p] w fun e w'=>e = .returned (.bool (Lib.hasPrefix s.data.toList p.data.toList)) ∧ w' = w:=Any.strings_HasPrefix Tryd.lays99 s p w
end Go.Proofs
namespace Go.Proofs.YtibgdilkodjojaaDoor.M.Sh
open Go.RowKit Go.Proofs.YtibgdilkodjojaaDoor.RX
theorem replaceAll33 {a b c:List UInt8} (h:decide (List.length a < 4294967281 ∧ 1 ≤ List.length b ∧ List.length a + Lib.countB ⟨a.toArray⟩ ⟨b.toArray⟩ * List.length c ≤ limit) = true):CallsX Tryd.prog 33 [.str a,.str b,.str c] (.str (Lib.replaceAll a b c)):=lib_replaceAll (g:=0) ⟨Tryd.f33,by kernel_rfl,by kernel_rfl,by kernel_rfl⟩ (low_gt (by kernel_rfl)) Tryd.laysM155.s1_3 Tryd.strings_ReplaceAll h
theorem hasPrefix49 {a b:List UInt8}:CallsX Tryd.prog 49 [.str a,.str b] (.val (.bool (Lib.hasPrefix a b))):=lib_hasPrefix ⟨Tryd.f49,by kernel_rfl,by kernel_rfl,by kernel_rfl⟩ Tryd.strings_HasPrefix
end Go.Proofs.YtibgdilkodjojaaDoor.M.Sh
