import Derived.Test.YtibgdilkodjojaaGreatDoorQRxShelf
import Derived.Test.YtibgdilkodjojaaGreatDoorQRxLib
import Derived.Lib.RowBridge
import Derived.Test.YtibgdilkodjojaaGreatDoorQRxKeys
import Derived.Shelf.Strings.Builder1
import Derived.Shelf.Strings.Builder2
import Derived.Shelf.Strings.Trim
import Derived.Shelf.Small.Utf8
import Derived.Shelf.Small.Bits
import Derived.Shelf.Small.Strs
import Derived.Shelf.Small.Wraps
import Derived.Shelf.Strings.BuilderF
import Derived.Shelf.Strings.BuilderK
import Derived.Shelf.Utf8.RuneCount
import Derived.Shelf.Strings.Builder2Cap
import Derived.Shelf.Strconv.Itoa0
import Derived.Shelf.Strings.Search1
import Derived.Shelf.Strings.Search2
import Derived.Shelf.Strings.Search3
import Derived.Shelf.Strings.Cut
import Derived.Shelf.Strings.Count
import Derived.Shelf.LaysM
import Derived.Shelf.Strings.Shaped
import Derived.Shelf.Sort.Plain
import Derived.Shelf.Strings.Prefix
import Derived.Shelf.Strings.Split
import Derived.Shelf.Strings.Replace
import Derived.Shelf.Strings.SplitShaped
import Derived.Shelf.Unicode.Decode
import Derived.Shelf.Strings.Runes
import Derived.Shelf.Strings.RuneCount
import Derived.Shelf.Strings.AsciiSet
import Derived.Shelf.Unicode.DecodeSlow
import Derived.Shelf.Unicode.DecodeAny
import Derived.Shelf.Unicode.DecodeLast
import Derived.Shelf.Strings.BuilderCap
import Derived.Shelf.Slices.CompactS
import Derived.Shelf.Slices.Cells
import Derived.Shelf.Slices.In.SortNone
import Derived.Shelf.SlGeneric
import Derived.Shelf.SlIter.Nil
import Derived.Shelf.SortM.Plain
import Derived.Shelf.SortM.SortNone
import Derived.Ground.GgzProg
import Derived.Ground.SlgmProg
import Derived.Shelf.Spec.SlicesGrow
import Derived.Test.YtibgdilkodjojaaGreatDoorProg
set_option linter.all false
namespace Go.Proofs
open Go.Shelf
def Tryz.lays145_ren:Go.Shelf.Ren:=⟨fun | 145=>55 | 220=>81 | 219=>110 | 217=>133 | 225=>134 | 224=>135 | 267=>136 | 266=>144 | 314=>145 | n=>n,fun | 9=>9 | 4=>4 | 59=>95 | 3=>3 | 5=>5 | 46=>107 | 146=>182 | 51=>148 | n=>n,fun | 1=>0 | n=>n⟩
theorem Tryz.lays145:Go.Proofs.Lays.n145 Tryz.prog Tryz.lays145_ren:={
  mixed:=by kernel_rfl
  f145:=Tryz.func55.trans (congrArg some (by kernel_rfl))
  f217:=Tryz.func133.trans (congrArg some (by kernel_rfl))
  f219:=Tryz.func110.trans (congrArg some (by kernel_rfl))
  f220:=Tryz.func81.trans (congrArg some (by kernel_rfl))
  f224:=Tryz.func135.trans (congrArg some (by kernel_rfl))
  f225:=Tryz.func134.trans (congrArg some (by kernel_rfl))
  f266:=Tryz.func144.trans (congrArg some (by kernel_rfl))
  f267:=Tryz.func136.trans (congrArg some (by kernel_rfl))
  f314:=Tryz.func145.trans (congrArg some (by kernel_rfl))
  t3:=Tryz.underlying3
  a3:=Tryz.isAgg3
  z3:=Tryz.sizeOf3
  v3:=Tryz.zeroValue3
  t4:=Tryz.underlying4
  a4:=Tryz.isAgg4
  z4:=Tryz.sizeOf4
  v4:=Tryz.zeroValue4
  t5:=Tryz.underlying5
  a5:=Tryz.isAgg5
  z5:=Tryz.sizeOf5
  v5:=Tryz.zeroValue5
  t9:=Tryz.underlying9
  a9:=Tryz.isAgg9
  z9:=Tryz.sizeOf9
  v9:=Tryz.zeroValue9
  t46:=Tryz.underlying107
  a46:=Tryz.isAgg107
  z46:=Tryz.sizeOf107
  v46:=Tryz.zeroValue107
  t51:=Tryz.underlying148
  a51:=Tryz.isAgg148
  z51:=Tryz.sizeOf148
  v51:=Tryz.zeroValue148
  t59:=Tryz.underlying95
  a59:=Tryz.isAgg95
  z59:=Tryz.sizeOf95
  v59:=Tryz.zeroValue95
  t146:=Tryz.underlying182
  a146:=Tryz.isAgg182
  z146:=Tryz.sizeOf182
  v146:=Tryz.zeroValue182
  g1:=by kernel_rfl }
open Go.RowKit Go.Lib in
theorem Tryz.strings_Cut (s sep:ByteArray) (m:Int) (w:World) (hs:s.size < 4294967281) (hm:w.cell? ⟨0,0,none⟩ = some (.int .i64 m)) :
    Calls Tryz.prog 55 #[.string s,.string sep] w fun e w'=>e = .returned (.tuple #[.string ⟨(Lib.cut s.data.toList sep.data.toList).1.toArray⟩,.string ⟨(Lib.cut s.data.toList sep.data.toList).2.1.toArray⟩,.bool (Lib.cut s.data.toList sep.data.toList).2.2]) ∧ ∃ n,w' = w.drewN n:=Any.strings_Cut Tryz.lays145 s sep m w hs hm
def Tryz.laysM145_ren:Go.Shelf.Ren:=⟨fun | 145=>55 | 220=>81 | 219=>110 | 217=>133 | 225=>134 | 224=>135 | 267=>136 | 266=>144 | 314=>145 | n=>n,fun | 9=>9 | 4=>4 | 59=>95 | 3=>3 | 5=>5 | 46=>107 | 146=>182 | 51=>148 | n=>n,fun | 1=>0 | n=>n⟩
theorem Tryz.laysM145:Go.Proofs.LaysM.n145 Tryz.prog Tryz.laysM145_ren:={
  mixed:=by kernel_rfl
  f145:=Tryz.func55.trans (congrArg some (by kernel_rfl))
  f217:=Tryz.func133.trans (congrArg some (by kernel_rfl))
  f219:=Tryz.func110.trans (congrArg some (by kernel_rfl))
  f220:=Tryz.func81.trans (congrArg some (by kernel_rfl))
  f224:=Tryz.func135.trans (congrArg some (by kernel_rfl))
  f225:=Tryz.func134.trans (congrArg some (by kernel_rfl))
  f266:=Tryz.func144.trans (congrArg some (by kernel_rfl))
  f267:=Tryz.func136.trans (congrArg some (by kernel_rfl))
  f314:=Tryz.func145.trans (congrArg some (by kernel_rfl))
  t3:=Tryz.underlying3
  a3:=Tryz.isAgg3
  z3:=Tryz.sizeOf3
  v3:=Tryz.zeroValue3
  t4:=Tryz.underlying4
  a4:=Tryz.isAgg4
  z4:=Tryz.sizeOf4
  v4:=Tryz.zeroValue4
  t5:=Tryz.underlying5
  a5:=Tryz.isAgg5
  z5:=Tryz.sizeOf5
  v5:=Tryz.zeroValue5
  t9:=Tryz.underlying9
  a9:=Tryz.isAgg9
  z9:=Tryz.sizeOf9
  v9:=Tryz.zeroValue9
  t46:=Tryz.underlying107
  a46:=Tryz.isAgg107
  z46:=Tryz.sizeOf107
  v46:=Tryz.zeroValue107
  t51:=Tryz.underlying148
  a51:=Tryz.isAgg148
  z51:=Tryz.sizeOf148
  v51:=Tryz.zeroValue148
  t59:=Tryz.underlying95
  a59:=Tryz.isAgg95
  z59:=Tryz.sizeOf95
  v59:=Tryz.zeroValue95
  t146:=Tryz.underlying182
  a146:=Tryz.isAgg182
  z146:=Tryz.sizeOf182
  v146:=Tryz.zeroValue182
  g1:=by kernel_rfl
  i3:=by kernel_rfl
  i4:=by kernel_rfl
  i5:=by kernel_rfl
  i9:=by kernel_rfl
  i46:=by kernel_rfl
  i51:=by kernel_rfl
  i59:=by kernel_rfl
  i146:=by kernel_rfl
  m1:=by kernel_rfl
  s1_3:=fun w h=>Go.Proofs.cell_of_shapedOpen_int (zero:=#[.int .i64 0]) (t:=3) h (of_decide_eq_true (by kernel_rfl)) (by kernel_rfl) rfl (by kernel_rfl) (by kernel_rfl) Tryz.underlying3 }
def Tryz.lays99_ren:Go.Shelf.Ren:=⟨fun | 99=>73 | 206=>93 | n=>n,fun | 9=>9 | 4=>4 | 3=>3 | n=>n,fun | n=>n⟩
theorem Tryz.lays99:Go.Proofs.Lays.n99 Tryz.prog Tryz.lays99_ren:={
  mixed:=by kernel_rfl
  f99:=Tryz.func73.trans (congrArg some (by kernel_rfl))
  f206:=Tryz.func93.trans (congrArg some (by kernel_rfl))
  t3:=Tryz.underlying3
  a3:=Tryz.isAgg3
  z3:=Tryz.sizeOf3
  v3:=Tryz.zeroValue3
  t4:=Tryz.underlying4
  a4:=Tryz.isAgg4
  z4:=Tryz.sizeOf4
  v4:=Tryz.zeroValue4
  t9:=Tryz.underlying9
  a9:=Tryz.isAgg9
  z9:=Tryz.sizeOf9
  v9:=Tryz.zeroValue9 }
open Go.RowKit Go.Lib in
theorem Tryz.strings_HasPrefix (s p:ByteArray) (w:World) :
    Calls Tryz.prog 73 #[.string s,.string p] w fun e w'=>e = .returned (.bool (Lib.hasPrefix s.data.toList p.data.toList)) ∧ w' = w:=Any.strings_HasPrefix Tryz.lays99 s p w
def Tryz.lays160_ren:Go.Shelf.Ren:=⟨fun | 160=>82 | 232=>112 | 231=>111 | 227=>113 | 234=>115 | 233=>114 | 236=>117 | 235=>116 | 228=>137 | 271=>140 | 151=>139 | 197=>138 | 120=>148 | 152=>147 | 260=>146 | 137=>151 | 119=>152 | 224=>135 | 225=>134 | 217=>133 | 266=>144 | n=>n,fun | 9=>9 | 4=>4 | 3=>3 | 5=>5 | 117=>155 | 116=>154 | 0=>0 | 124=>158 | 21=>21 | 105=>175 | 46=>107 | 119=>188 | 139=>191 | 138=>190 | n=>n,fun | 3=>1 | 4=>2 | n=>n⟩
theorem Tryz.lays160:Go.Proofs.Lays.n160 Tryz.prog Tryz.lays160_ren:={
  mixed:=by kernel_rfl
  f119:=Tryz.func152.trans (congrArg some (by kernel_rfl))
  f120:=Tryz.func148.trans (congrArg some (by kernel_rfl))
  f137:=Tryz.func151.trans (congrArg some (by kernel_rfl))
  f151:=Tryz.func139.trans (congrArg some (by kernel_rfl))
  f152:=Tryz.func147.trans (congrArg some (by kernel_rfl))
  f160:=Tryz.func82.trans (congrArg some (by kernel_rfl))
  f197:=Tryz.func138.trans (congrArg some (by kernel_rfl))
  f217:=Tryz.func133.trans (congrArg some (by kernel_rfl))
  f224:=Tryz.func135.trans (congrArg some (by kernel_rfl))
  f225:=Tryz.func134.trans (congrArg some (by kernel_rfl))
  f227:=Tryz.func113.trans (congrArg some (by kernel_rfl))
  f228:=Tryz.func137.trans (congrArg some (by kernel_rfl))
  f231:=Tryz.func111.trans (congrArg some (by kernel_rfl))
  f232:=Tryz.func112.trans (congrArg some (by kernel_rfl))
  f233:=Tryz.func114.trans (congrArg some (by kernel_rfl))
  f234:=Tryz.func115.trans (congrArg some (by kernel_rfl))
  f235:=Tryz.func116.trans (congrArg some (by kernel_rfl))
  f236:=Tryz.func117.trans (congrArg some (by kernel_rfl))
  f260:=Tryz.func146.trans (congrArg some (by kernel_rfl))
  f266:=Tryz.func144.trans (congrArg some (by kernel_rfl))
  f271:=Tryz.func140.trans (congrArg some (by kernel_rfl))
  t0:=Tryz.underlying0
  a0:=Tryz.isAgg0
  z0:=Tryz.sizeOf0
  v0:=Tryz.zeroValue0
  t3:=Tryz.underlying3
  a3:=Tryz.isAgg3
  z3:=Tryz.sizeOf3
  v3:=Tryz.zeroValue3
  t4:=Tryz.underlying4
  a4:=Tryz.isAgg4
  z4:=Tryz.sizeOf4
  v4:=Tryz.zeroValue4
  t5:=Tryz.underlying5
  a5:=Tryz.isAgg5
  z5:=Tryz.sizeOf5
  v5:=Tryz.zeroValue5
  t9:=Tryz.underlying9
  a9:=Tryz.isAgg9
  z9:=Tryz.sizeOf9
  v9:=Tryz.zeroValue9
  t21:=Tryz.underlying21
  a21:=Tryz.isAgg21
  z21:=Tryz.sizeOf21
  v21:=Tryz.zeroValue21
  t46:=Tryz.underlying107
  a46:=Tryz.isAgg107
  z46:=Tryz.sizeOf107
  v46:=Tryz.zeroValue107
  t105:=Tryz.underlying175
  a105:=Tryz.isAgg175
  z105:=Tryz.sizeOf175
  v105:=Tryz.zeroValue175
  t116:=Tryz.underlying154
  a116:=Tryz.isAgg154
  z116:=Tryz.sizeOf154
  t117:=Tryz.underlying155
  a117:=Tryz.isAgg155
  z117:=Tryz.sizeOf155
  v117:=Tryz.zeroValue155
  t119:=Tryz.underlying188
  a119:=Tryz.isAgg188
  z119:=Tryz.sizeOf188
  t124:=Tryz.underlying158
  a124:=Tryz.isAgg158
  z124:=Tryz.sizeOf158
  v124:=Tryz.zeroValue158
  t138:=Tryz.underlying190
  a138:=Tryz.isAgg190
  z138:=Tryz.sizeOf190
  v138:=Tryz.zeroValue190
  t139:=Tryz.underlying191
  a139:=Tryz.isAgg191
  z139:=Tryz.sizeOf191
  v139:=Tryz.zeroValue191
  g3:=by kernel_rfl
  g4:=by kernel_rfl }
open Go.RowKit in
theorem Tryz.strings_Trim_one (s:ByteArray) (c:UInt8) (hc:c.toNat < 128) (w:World) (hs:s.size ≤ 9223372036854775807) :
    Calls Tryz.prog 82 #[.string s,.string ⟨#[c]⟩] w fun e w'=>e = .returned (.string ⟨(Lib.trimB s.data.toList c).toArray⟩) ∧ (w' = w ∨ w' = w.drew):=Any.strings_Trim_one Tryz.lays160 s c hc w hs
def Tryz.lays103_ren:Go.Shelf.Ren:=⟨fun | 103=>83 | 210=>118 | 206=>93 | n=>n,fun | 9=>9 | 4=>4 | 24=>38 | 3=>3 | n=>n,fun | n=>n⟩
theorem Tryz.lays103:Go.Proofs.Lays.n103 Tryz.prog Tryz.lays103_ren:={
  mixed:=by kernel_rfl
  f103:=Tryz.func83.trans (congrArg some (by kernel_rfl))
  f206:=Tryz.func93.trans (congrArg some (by kernel_rfl))
  f210:=Tryz.func118.trans (congrArg some (by kernel_rfl))
  t3:=Tryz.underlying3
  a3:=Tryz.isAgg3
  z3:=Tryz.sizeOf3
  v3:=Tryz.zeroValue3
  t4:=Tryz.underlying4
  a4:=Tryz.isAgg4
  z4:=Tryz.sizeOf4
  v4:=Tryz.zeroValue4
  t9:=Tryz.underlying9
  a9:=Tryz.isAgg9
  z9:=Tryz.sizeOf9
  v9:=Tryz.zeroValue9
  t24:=Tryz.underlying38
  a24:=Tryz.isAgg38
  z24:=Tryz.sizeOf38
  v24:=Tryz.zeroValue38 }
open Go.RowKit in
theorem Tryz.strings_CutPrefix (s p:ByteArray) (w:World) :
    Calls Tryz.prog 83 #[.string s,.string p] w fun e w'=>e = .returned (.tuple #[.string ⟨(Lib.trimPrefix s.data.toList p.data.toList).toArray⟩,.bool (Lib.hasPrefix s.data.toList p.data.toList)]) ∧ w' = w:=Any.strings_CutPrefix Tryz.lays103 s p w
def Tryz.lays161_ren:Go.Shelf.Ren:=⟨fun | 161=>84 | 231=>111 | 227=>113 | 233=>114 | 235=>116 | 228=>137 | 197=>138 | 151=>139 | 260=>146 | 152=>147 | 137=>151 | 119=>152 | 224=>135 | 225=>134 | 217=>133 | 266=>144 | n=>n,fun | 9=>9 | 4=>4 | 3=>3 | 5=>5 | 117=>155 | 116=>154 | 0=>0 | 124=>158 | 105=>175 | 21=>21 | 119=>188 | 46=>107 | 139=>191 | 138=>190 | n=>n,fun | 3=>1 | 4=>2 | n=>n⟩
theorem Tryz.lays161:Go.Proofs.Lays.n161 Tryz.prog Tryz.lays161_ren:={
  mixed:=by kernel_rfl
  f119:=Tryz.func152.trans (congrArg some (by kernel_rfl))
  f137:=Tryz.func151.trans (congrArg some (by kernel_rfl))
  f151:=Tryz.func139.trans (congrArg some (by kernel_rfl))
  f152:=Tryz.func147.trans (congrArg some (by kernel_rfl))
  f161:=Tryz.func84.trans (congrArg some (by kernel_rfl))
  f197:=Tryz.func138.trans (congrArg some (by kernel_rfl))
  f217:=Tryz.func133.trans (congrArg some (by kernel_rfl))
  f224:=Tryz.func135.trans (congrArg some (by kernel_rfl))
  f225:=Tryz.func134.trans (congrArg some (by kernel_rfl))
  f227:=Tryz.func113.trans (congrArg some (by kernel_rfl))
  f228:=Tryz.func137.trans (congrArg some (by kernel_rfl))
  f231:=Tryz.func111.trans (congrArg some (by kernel_rfl))
  f233:=Tryz.func114.trans (congrArg some (by kernel_rfl))
  f235:=Tryz.func116.trans (congrArg some (by kernel_rfl))
  f260:=Tryz.func146.trans (congrArg some (by kernel_rfl))
  f266:=Tryz.func144.trans (congrArg some (by kernel_rfl))
  t0:=Tryz.underlying0
  a0:=Tryz.isAgg0
  z0:=Tryz.sizeOf0
  v0:=Tryz.zeroValue0
  t3:=Tryz.underlying3
  a3:=Tryz.isAgg3
  z3:=Tryz.sizeOf3
  v3:=Tryz.zeroValue3
  t4:=Tryz.underlying4
  a4:=Tryz.isAgg4
  z4:=Tryz.sizeOf4
  v4:=Tryz.zeroValue4
  t5:=Tryz.underlying5
  a5:=Tryz.isAgg5
  z5:=Tryz.sizeOf5
  v5:=Tryz.zeroValue5
  t9:=Tryz.underlying9
  a9:=Tryz.isAgg9
  z9:=Tryz.sizeOf9
  v9:=Tryz.zeroValue9
  t21:=Tryz.underlying21
  a21:=Tryz.isAgg21
  z21:=Tryz.sizeOf21
  v21:=Tryz.zeroValue21
  t46:=Tryz.underlying107
  a46:=Tryz.isAgg107
  z46:=Tryz.sizeOf107
  v46:=Tryz.zeroValue107
  t105:=Tryz.underlying175
  a105:=Tryz.isAgg175
  z105:=Tryz.sizeOf175
  v105:=Tryz.zeroValue175
  t116:=Tryz.underlying154
  a116:=Tryz.isAgg154
  z116:=Tryz.sizeOf154
  t117:=Tryz.underlying155
  a117:=Tryz.isAgg155
  z117:=Tryz.sizeOf155
  v117:=Tryz.zeroValue155
  t119:=Tryz.underlying188
  a119:=Tryz.isAgg188
  z119:=Tryz.sizeOf188
  t124:=Tryz.underlying158
  a124:=Tryz.isAgg158
  z124:=Tryz.sizeOf158
  v124:=Tryz.zeroValue158
  t138:=Tryz.underlying190
  a138:=Tryz.isAgg190
  z138:=Tryz.sizeOf190
  v138:=Tryz.zeroValue190
  t139:=Tryz.underlying191
  a139:=Tryz.isAgg191
  z139:=Tryz.sizeOf191
  v139:=Tryz.zeroValue191
  g3:=by kernel_rfl
  g4:=by kernel_rfl }
open Go.RowKit in
theorem Tryz.strings_TrimLeft_one (s:ByteArray) (c:UInt8) (hc:c.toNat < 128) (w:World) :
    Calls Tryz.prog 84 #[.string s,.string ⟨#[c]⟩] w fun e w'=>e = .returned (.string ⟨(Lib.trimLeftB s.data.toList c).toArray⟩) ∧ w' = w:=Any.strings_TrimLeft_one Tryz.lays161 s c hc w
def Tryz.lays143_ren:Go.Shelf.Ren:=⟨fun | 143=>120 | 219=>110 | 217=>133 | 225=>134 | 224=>135 | 267=>136 | 266=>144 | 314=>145 | n=>n,fun | 9=>9 | 3=>3 | 4=>4 | 5=>5 | 46=>107 | 146=>182 | 51=>148 | n=>n,fun | 1=>0 | n=>n⟩
theorem Tryz.lays143:Go.Proofs.Lays.n143 Tryz.prog Tryz.lays143_ren:={
  mixed:=by kernel_rfl
  f143:=Tryz.func120.trans (congrArg some (by kernel_rfl))
  f217:=Tryz.func133.trans (congrArg some (by kernel_rfl))
  f219:=Tryz.func110.trans (congrArg some (by kernel_rfl))
  f224:=Tryz.func135.trans (congrArg some (by kernel_rfl))
  f225:=Tryz.func134.trans (congrArg some (by kernel_rfl))
  f266:=Tryz.func144.trans (congrArg some (by kernel_rfl))
  f267:=Tryz.func136.trans (congrArg some (by kernel_rfl))
  f314:=Tryz.func145.trans (congrArg some (by kernel_rfl))
  t3:=Tryz.underlying3
  a3:=Tryz.isAgg3
  z3:=Tryz.sizeOf3
  v3:=Tryz.zeroValue3
  t4:=Tryz.underlying4
  a4:=Tryz.isAgg4
  z4:=Tryz.sizeOf4
  v4:=Tryz.zeroValue4
  t5:=Tryz.underlying5
  a5:=Tryz.isAgg5
  z5:=Tryz.sizeOf5
  v5:=Tryz.zeroValue5
  t9:=Tryz.underlying9
  a9:=Tryz.isAgg9
  z9:=Tryz.sizeOf9
  v9:=Tryz.zeroValue9
  t46:=Tryz.underlying107
  a46:=Tryz.isAgg107
  z46:=Tryz.sizeOf107
  v46:=Tryz.zeroValue107
  t51:=Tryz.underlying148
  a51:=Tryz.isAgg148
  z51:=Tryz.sizeOf148
  v51:=Tryz.zeroValue148
  t146:=Tryz.underlying182
  a146:=Tryz.isAgg182
  z146:=Tryz.sizeOf182
  v146:=Tryz.zeroValue182
  g1:=by kernel_rfl }
open Go.RowKit Go.Lib in
theorem Tryz.strings_Index (s sub:ByteArray) (m:Int) (w:World) (hs:s.size < 4294967281) (hm:w.cell? ⟨0,0,none⟩ = some (.int .i64 m)) :
    Calls Tryz.prog 120 #[.string s,.string sub] w fun e w'=>e = .returned (.int .i64 (Lib.index s.data.toList sub.data.toList)) ∧ w' = w:=Any.strings_Index Tryz.lays143 s sub m w hs hm
def Tryz.laysM143_ren:Go.Shelf.Ren:=⟨fun | 143=>120 | 219=>110 | 217=>133 | 225=>134 | 224=>135 | 267=>136 | 266=>144 | 314=>145 | n=>n,fun | 9=>9 | 3=>3 | 4=>4 | 5=>5 | 46=>107 | 146=>182 | 51=>148 | n=>n,fun | 1=>0 | n=>n⟩
theorem Tryz.laysM143:Go.Proofs.LaysM.n143 Tryz.prog Tryz.laysM143_ren:={
  mixed:=by kernel_rfl
  f143:=Tryz.func120.trans (congrArg some (by kernel_rfl))
  f217:=Tryz.func133.trans (congrArg some (by kernel_rfl))
  f219:=Tryz.func110.trans (congrArg some (by kernel_rfl))
  f224:=Tryz.func135.trans (congrArg some (by kernel_rfl))
  f225:=Tryz.func134.trans (congrArg some (by kernel_rfl))
  f266:=Tryz.func144.trans (congrArg some (by kernel_rfl))
  f267:=Tryz.func136.trans (congrArg some (by kernel_rfl))
  f314:=Tryz.func145.trans (congrArg some (by kernel_rfl))
  t3:=Tryz.underlying3
  a3:=Tryz.isAgg3
  z3:=Tryz.sizeOf3
  v3:=Tryz.zeroValue3
  t4:=Tryz.underlying4
  a4:=Tryz.isAgg4
  z4:=Tryz.sizeOf4
  v4:=Tryz.zeroValue4
  t5:=Tryz.underlying5
  a5:=Tryz.isAgg5
  z5:=Tryz.sizeOf5
  v5:=Tryz.zeroValue5
  t9:=Tryz.underlying9
  a9:=Tryz.isAgg9
  z9:=Tryz.sizeOf9
  v9:=Tryz.zeroValue9
  t46:=Tryz.underlying107
  a46:=Tryz.isAgg107
  z46:=Tryz.sizeOf107
  v46:=Tryz.zeroValue107
  t51:=Tryz.underlying148
  a51:=Tryz.isAgg148
  z51:=Tryz.sizeOf148
  v51:=Tryz.zeroValue148
  t146:=Tryz.underlying182
  a146:=Tryz.isAgg182
  z146:=Tryz.sizeOf182
  v146:=Tryz.zeroValue182
  g1:=by kernel_rfl
  i3:=by kernel_rfl
  i4:=by kernel_rfl
  i5:=by kernel_rfl
  i9:=by kernel_rfl
  i46:=by kernel_rfl
  i51:=by kernel_rfl
  i146:=by kernel_rfl
  m1:=by kernel_rfl
  s1_3:=fun w h=>Go.Proofs.cell_of_shapedOpen_int (zero:=#[.int .i64 0]) (t:=3) h (of_decide_eq_true (by kernel_rfl)) (by kernel_rfl) rfl (by kernel_rfl) (by kernel_rfl) Tryz.underlying3 }
def Tryz.lays162_ren:Go.Shelf.Ren:=⟨fun | 162=>121 | 232=>112 | 227=>113 | 234=>115 | 236=>117 | 228=>137 | 271=>140 | 151=>139 | 120=>148 | 197=>138 | 152=>147 | 260=>146 | 137=>151 | 119=>152 | 224=>135 | 225=>134 | 217=>133 | 266=>144 | n=>n,fun | 9=>9 | 4=>4 | 3=>3 | 5=>5 | 117=>155 | 116=>154 | 0=>0 | 124=>158 | 21=>21 | 105=>175 | 46=>107 | 119=>188 | 139=>191 | 138=>190 | n=>n,fun | 3=>1 | 4=>2 | n=>n⟩
theorem Tryz.lays162:Go.Proofs.Lays.n162 Tryz.prog Tryz.lays162_ren:={
  mixed:=by kernel_rfl
  f119:=Tryz.func152.trans (congrArg some (by kernel_rfl))
  f120:=Tryz.func148.trans (congrArg some (by kernel_rfl))
  f137:=Tryz.func151.trans (congrArg some (by kernel_rfl))
  f151:=Tryz.func139.trans (congrArg some (by kernel_rfl))
  f152:=Tryz.func147.trans (congrArg some (by kernel_rfl))
  f162:=Tryz.func121.trans (congrArg some (by kernel_rfl))
  f197:=Tryz.func138.trans (congrArg some (by kernel_rfl))
  f217:=Tryz.func133.trans (congrArg some (by kernel_rfl))
  f224:=Tryz.func135.trans (congrArg some (by kernel_rfl))
  f225:=Tryz.func134.trans (congrArg some (by kernel_rfl))
  f227:=Tryz.func113.trans (congrArg some (by kernel_rfl))
  f228:=Tryz.func137.trans (congrArg some (by kernel_rfl))
  f232:=Tryz.func112.trans (congrArg some (by kernel_rfl))
  f234:=Tryz.func115.trans (congrArg some (by kernel_rfl))
  f236:=Tryz.func117.trans (congrArg some (by kernel_rfl))
  f260:=Tryz.func146.trans (congrArg some (by kernel_rfl))
  f266:=Tryz.func144.trans (congrArg some (by kernel_rfl))
  f271:=Tryz.func140.trans (congrArg some (by kernel_rfl))
  t0:=Tryz.underlying0
  a0:=Tryz.isAgg0
  z0:=Tryz.sizeOf0
  v0:=Tryz.zeroValue0
  t3:=Tryz.underlying3
  a3:=Tryz.isAgg3
  z3:=Tryz.sizeOf3
  v3:=Tryz.zeroValue3
  t4:=Tryz.underlying4
  a4:=Tryz.isAgg4
  z4:=Tryz.sizeOf4
  v4:=Tryz.zeroValue4
  t5:=Tryz.underlying5
  a5:=Tryz.isAgg5
  z5:=Tryz.sizeOf5
  v5:=Tryz.zeroValue5
  t9:=Tryz.underlying9
  a9:=Tryz.isAgg9
  z9:=Tryz.sizeOf9
  v9:=Tryz.zeroValue9
  t21:=Tryz.underlying21
  a21:=Tryz.isAgg21
  z21:=Tryz.sizeOf21
  v21:=Tryz.zeroValue21
  t46:=Tryz.underlying107
  a46:=Tryz.isAgg107
  z46:=Tryz.sizeOf107
  v46:=Tryz.zeroValue107
  t105:=Tryz.underlying175
  a105:=Tryz.isAgg175
  z105:=Tryz.sizeOf175
  v105:=Tryz.zeroValue175
  t116:=Tryz.underlying154
  a116:=Tryz.isAgg154
  z116:=Tryz.sizeOf154
  t117:=Tryz.underlying155
  a117:=Tryz.isAgg155
  z117:=Tryz.sizeOf155
  v117:=Tryz.zeroValue155
  t119:=Tryz.underlying188
  a119:=Tryz.isAgg188
  z119:=Tryz.sizeOf188
  t124:=Tryz.underlying158
  a124:=Tryz.isAgg158
  z124:=Tryz.sizeOf158
  v124:=Tryz.zeroValue158
  t138:=Tryz.underlying190
  a138:=Tryz.isAgg190
  z138:=Tryz.sizeOf190
  v138:=Tryz.zeroValue190
  t139:=Tryz.underlying191
  a139:=Tryz.isAgg191
  z139:=Tryz.sizeOf191
  v139:=Tryz.zeroValue191
  g3:=by kernel_rfl
  g4:=by kernel_rfl }
open Go.RowKit in
theorem Tryz.strings_TrimRight_one (s:ByteArray) (c:UInt8) (hc:c.toNat < 128) (w:World) (hs:s.size ≤ 9223372036854775807) :
    Calls Tryz.prog 121 #[.string s,.string ⟨#[c]⟩] w fun e w'=>e = .returned (.string ⟨(Lib.trimRightB s.data.toList c).toArray⟩) ∧ w' = w:=Any.strings_TrimRight_one Tryz.lays162 s c hc w hs
def Tryz.keys63_ren:Go.Shelf.Ren:=⟨fun | 7=>63 | 10=>88 | n=>n,fun | 23=>68 | 26=>9 | 3=>71 | 28=>103 | 0=>0 | 27=>102 | 33=>69 | 4=>4 | n=>n,fun | n=>n⟩
theorem Tryz.keys63:Go.Proofs.SlLaysZ.n7 Tryz.prog Tryz.keys63_ren:={
  mixed:=by kernel_rfl
  f7:=⟨Tryz.f63.name,by decide,Tryz.func63.trans (congrArg some (by kernel_rfl))⟩
  f10:=⟨Tryz.f88.name,by decide,Tryz.func88.trans (congrArg some (by kernel_rfl))⟩
  t0:=Tryz.underlying0
  a0:=Tryz.isAgg0
  z0:=Tryz.sizeOf0
  v0:=Tryz.zeroValue0
  t4:=Tryz.underlying4
  a4:=Tryz.isAgg4
  z4:=Tryz.sizeOf4
  v4:=Tryz.zeroValue4
  t23:=Tryz.underlying68
  a23:=Tryz.isAgg68
  z23:=Tryz.sizeOf68
  v23:=Tryz.zeroValue68
  t26:=Tryz.underlying9
  a26:=Tryz.isAgg9
  z26:=Tryz.sizeOf9
  v26:=Tryz.zeroValue9
  t27:=Tryz.underlying102
  a27:=Tryz.isAgg102
  z27:=Tryz.sizeOf102
  v27:=Tryz.zeroValue102
  t28:=Tryz.underlying103
  a28:=Tryz.isAgg103
  z28:=Tryz.sizeOf103
  v28:=Tryz.zeroValue103
  t33:=Tryz.underlying69
  a33:=Tryz.isAgg69
  z33:=Tryz.sizeOf69
  v33:=Tryz.zeroValue69 }
def Tryz.sorted62_ren:Go.Shelf.Ren:=⟨fun | 6=>62 | 8=>87 | 9=>51 | 11=>122 | 13=>77 | 12=>76 | 23=>107 | 24=>108 | 14=>98 | 15=>99 | 16=>100 | 17=>101 | 18=>102 | 19=>103 | 20=>104 | 21=>105 | 22=>106 | 25=>127 | 26=>128 | 27=>129 | 28=>130 | 29=>131 | 30=>132 | 31=>143 | n=>n,fun | 26=>9 | 28=>103 | 24=>22 | 0=>0 | 3=>3 | 37=>107 | 48=>148 | 50=>150 | 4=>4 | 40=>141 | 39=>140 | 45=>145 | 5=>5 | 9=>9 | 51=>167 | 55=>171 | 57=>180 | 58=>125 | 33=>69 | n=>n,fun | n=>n⟩
theorem Tryz.sorted62:Go.Proofs.SlLaysZ.n6 Tryz.prog Tryz.sorted62_ren:={
  mixed:=by kernel_rfl
  f6:=⟨Tryz.f62.name,by decide,Tryz.func62.trans (congrArg some (by kernel_rfl))⟩
  f8:=⟨Tryz.f87.name,by decide,Tryz.func87.trans (congrArg some (by kernel_rfl))⟩
  f11:=⟨Tryz.f122.name,by decide,Tryz.func122.trans (congrArg some (by kernel_rfl))⟩
  t0:=Tryz.underlying0
  a0:=Tryz.isAgg0
  z0:=Tryz.sizeOf0
  v0:=Tryz.zeroValue0
  t24:=Tryz.underlying22
  a24:=Tryz.isAgg22
  z24:=Tryz.sizeOf22
  v24:=Tryz.zeroValue22
  t26:=Tryz.underlying9
  a26:=Tryz.isAgg9
  z26:=Tryz.sizeOf9
  v26:=Tryz.zeroValue9
  t28:=Tryz.underlying103
  a28:=Tryz.isAgg103
  z28:=Tryz.sizeOf103
  v28:=Tryz.zeroValue103
  i26:=by kernel_rfl }
def Tryz.sort51_ren:Go.Shelf.Ren:=⟨fun | 6=>51 | 8=>77 | 9=>76 | 19=>107 | 20=>108 | 21=>98 | 22=>99 | 23=>100 | 24=>101 | 25=>102 | 26=>103 | 27=>104 | 28=>105 | 29=>106 | 36=>127 | 31=>128 | 32=>129 | 37=>130 | 38=>131 | 39=>132 | 41=>143 | n=>n,fun | 27=>22 | 29=>9 | 3=>3 | 32=>107 | 26=>22 | 0=>0 | 44=>148 | 46=>150 | 4=>4 | 36=>141 | 35=>140 | 41=>145 | 5=>5 | 9=>9 | 53=>167 | 57=>171 | 63=>180 | 64=>125 | n=>n,fun | n=>n⟩
theorem Tryz.sort51:Go.Proofs.SlLaysM.n6 Tryz.prog Tryz.sort51_ren:={
  mixed:=by kernel_rfl
  f6:=⟨Tryz.f51.name,by decide,Tryz.func51.trans (congrArg some (by kernel_rfl))⟩
  f8:=Tryz.func77.trans (congrArg some (by kernel_rfl))
  f9:=⟨Tryz.f76.name,by decide,Tryz.func76.trans (congrArg some (by kernel_rfl))⟩
  f19:=Tryz.func107.trans (congrArg some (by kernel_rfl))
  f20:=Tryz.func108.trans (congrArg some (by kernel_rfl))
  f21:=⟨Tryz.f98.name,by decide,Tryz.func98.trans (congrArg some (by kernel_rfl))⟩
  f22:=⟨Tryz.f99.name,by decide,Tryz.func99.trans (congrArg some (by kernel_rfl))⟩
  f23:=⟨Tryz.f100.name,by decide,Tryz.func100.trans (congrArg some (by kernel_rfl))⟩
  f24:=⟨Tryz.f101.name,by decide,Tryz.func101.trans (congrArg some (by kernel_rfl))⟩
  f25:=⟨Tryz.f102.name,by decide,Tryz.func102.trans (congrArg some (by kernel_rfl))⟩
  f26:=⟨Tryz.f103.name,by decide,Tryz.func103.trans (congrArg some (by kernel_rfl))⟩
  f27:=⟨Tryz.f104.name,by decide,Tryz.func104.trans (congrArg some (by kernel_rfl))⟩
  f28:=⟨Tryz.f105.name,by decide,Tryz.func105.trans (congrArg some (by kernel_rfl))⟩
  f29:=⟨Tryz.f106.name,by decide,Tryz.func106.trans (congrArg some (by kernel_rfl))⟩
  f31:=Tryz.func128.trans (congrArg some (by kernel_rfl))
  f32:=Tryz.func129.trans (congrArg some (by kernel_rfl))
  f36:=⟨Tryz.f127.name,by decide,Tryz.func127.trans (congrArg some (by kernel_rfl))⟩
  f37:=⟨Tryz.f130.name,by decide,Tryz.func130.trans (congrArg some (by kernel_rfl))⟩
  f38:=⟨Tryz.f131.name,by decide,Tryz.func131.trans (congrArg some (by kernel_rfl))⟩
  f39:=⟨Tryz.f132.name,by decide,Tryz.func132.trans (congrArg some (by kernel_rfl))⟩
  f41:=⟨Tryz.f143.name,by decide,Tryz.func143.trans (congrArg some (by kernel_rfl))⟩
  t0:=Tryz.underlying0
  a0:=Tryz.isAgg0
  z0:=Tryz.sizeOf0
  v0:=Tryz.zeroValue0
  t3:=Tryz.underlying3
  a3:=Tryz.isAgg3
  z3:=Tryz.sizeOf3
  v3:=Tryz.zeroValue3
  t4:=Tryz.underlying4
  a4:=Tryz.isAgg4
  z4:=Tryz.sizeOf4
  v4:=Tryz.zeroValue4
  t5:=Tryz.underlying5
  a5:=Tryz.isAgg5
  z5:=Tryz.sizeOf5
  v5:=Tryz.zeroValue5
  t9:=Tryz.underlying9
  a9:=Tryz.isAgg9
  z9:=Tryz.sizeOf9
  v9:=Tryz.zeroValue9
  t26:=Tryz.underlying22
  a26:=Tryz.isAgg22
  z26:=Tryz.sizeOf22
  v26:=Tryz.zeroValue22
  t27:=Tryz.underlying22
  a27:=Tryz.isAgg22
  z27:=Tryz.sizeOf22
  v27:=Tryz.zeroValue22
  t29:=Tryz.underlying9
  a29:=Tryz.isAgg9
  z29:=Tryz.sizeOf9
  v29:=Tryz.zeroValue9
  t32:=Tryz.underlying107
  a32:=Tryz.isAgg107
  z32:=Tryz.sizeOf107
  v32:=Tryz.zeroValue107
  t35:=Tryz.underlying140
  a35:=Tryz.isAgg140
  z35:=Tryz.sizeOf140
  v35:=Tryz.zeroValue140
  t36:=Tryz.underlying141
  a36:=Tryz.isAgg141
  z36:=Tryz.sizeOf141
  v36:=Tryz.zeroValue141
  t41:=Tryz.underlying145
  a41:=Tryz.isAgg145
  z41:=Tryz.sizeOf145
  v41:=Tryz.zeroValue145
  t44:=Tryz.underlying148
  a44:=Tryz.isAgg148
  z44:=Tryz.sizeOf148
  v44:=Tryz.zeroValue148
  t46:=Tryz.underlying150
  a46:=Tryz.isAgg150
  z46:=Tryz.sizeOf150
  v46:=Tryz.zeroValue150
  t53:=Tryz.underlying167
  a53:=Tryz.isAgg167
  z53:=Tryz.sizeOf167
  v53:=Tryz.zeroValue167
  t57:=Tryz.underlying171
  a57:=Tryz.isAgg171
  z57:=Tryz.sizeOf171
  v57:=Tryz.zeroValue171
  t63:=Tryz.underlying180
  a63:=Tryz.isAgg180
  z63:=Tryz.sizeOf180
  v63:=Tryz.zeroValue180
  t64:=Tryz.underlying125
  a64:=Tryz.isAgg125
  z64:=Tryz.sizeOf125
  v64:=Tryz.zeroValue125 }
open Go.RowKit Go.Maps Go.Sort in
theorem Tryz.sorts62 (m:Nat):AnyZ.SortsIn Tryz.prog Tryz.sorted62_ren Fence.wide m :=
  ⟨fun blk off cap ss W hH hblk hsz=>callsIn_wide.2 (AnyM.slices_Sort_string Tryz.sort51 blk off cap ss W hH hblk hsz),
   fun p cap W=>callsIn_wide.2 (AnyM.slices_Sort_string_none Tryz.sort51 p cap W)⟩
open Go.RowKit Go.Maps Go.Sort in
theorem Tryz.sorted_keys_62_88 {H:Type} (bb b nn:Nat) (D0:DataW H) (R:Value → Option (DataW H × List MemPlace)) (W:World) (hbb:bb < W.heap.size) (hcell:W.cell? ⟨bb,0,none⟩ = some (.map (some b))) (hown:W.ownsMap Tryz.prog 9 R b nn D0) (hmax:Maps.size D0 ≤ maxLen) (hbytes:Maps.size D0 * 16 ≤ 140737488355328) :
    CallsIn Fence.wide 5 Tryz.prog 62 #[.func (.func 88) #[] #[.pointer (some ⟨bb,0,none⟩)]] W fun e w'=>∃ (v:Value) (ss:List (List UInt8)),e = .returned v ∧ ss.Perm (strKeys D0) ∧
      w'.ownsRow W.heap.size 9 1 v ss.length ((ss.mergeSort (fun x y=>decide (x ≤ y))).map encStr) ∧ (v = .slice none 0 0 ↔ ss = []) ∧ Below W.heap.size W w':=by
  have hseq:SeqGives Fence.wide 2 Tryz.prog 88 #[.pointer (some ⟨bb,0,none⟩)] encStr (fun ss=>ss.Perm (strKeys D0)) (Maps.size D0) W :=
    AnyZ.keys_gives (ρ:=Tryz.keys63_ren) { Tryz.keys63 with } Fence.wide _ trivial rfl (by omega) bb b nn D0 W hbb hcell hown
  exact AnyZ.sorted_in Tryz.sorted62 Fence.wide 5 trivial trivial trivial trivial rfl (by omega) (Tryz.sorts62 _) (enters_of Tryz.func51 (by kernel_rfl) rfl) 88 #[.pointer (some ⟨bb,0,none⟩)] trivial (enters_of Tryz.func88 (by kernel_rfl) rfl) _ _ hmax hbytes _ hseq
open Go.RowKit Go.Maps Go.Sort in
theorem Tryz.maps_Keys_63 (mb:Option Nat) (W:World):CallsIn Fence.wide 5 Tryz.prog 63 #[.map mb] W fun e w'=>e = .returned (.func (.func 88) #[] #[.pointer (some ⟨W.heap.size,0,none⟩)]) ∧ w' = W.alloc (.cells #[.map mb] 68) :=
  AnyZ.keys_in Tryz.keys63 Fence.wide 5 trivial rfl mb W
def Tryz.laysG64_ren:Go.Shelf.Ren:=⟨fun | 4=>64 | n=>n,fun | 22=>26 | 25=>48 | 3=>3 | 4=>4 | 9=>9 | 20=>20 | 0=>0 | n=>n,fun | n=>n⟩
theorem Tryz.laysG64:Go.Proofs.Lays8.n4 Tryz.prog Tryz.laysG64_ren:={
  mixed:=by kernel_rfl
  f4:=⟨Tryz.f64.name,by decide,Tryz.func64.trans (congrArg some (by kernel_rfl))⟩
  t0:=Tryz.underlying0
  a0:=Tryz.isAgg0
  z0:=Tryz.sizeOf0
  v0:=Tryz.zeroValue0
  t3:=Tryz.underlying3
  a3:=Tryz.isAgg3
  z3:=Tryz.sizeOf3
  v3:=Tryz.zeroValue3
  t4:=Tryz.underlying4
  a4:=Tryz.isAgg4
  z4:=Tryz.sizeOf4
  v4:=Tryz.zeroValue4
  t9:=Tryz.underlying9
  a9:=Tryz.isAgg9
  z9:=Tryz.sizeOf9
  v9:=Tryz.zeroValue9
  t20:=Tryz.underlying20
  a20:=Tryz.isAgg20
  z20:=Tryz.sizeOf20
  v20:=Tryz.zeroValue20
  t22:=Tryz.underlying26
  a22:=Tryz.isAgg26
  z22:=Tryz.sizeOf26
  v22:=Tryz.zeroValue26 }
end Go.Proofs
namespace Go.Proofs.YtibgdilkodjojaaGreatDoor.M.Sh
open Go.RowKit Go.Proofs.YtibgdilkodjojaaGreatDoor.RX
theorem keys63 {ag:Bool} {α:Type} {d:α} {enc:α → List D} {l:List (MK × α)}:CallsB Tryz.prog 63 [.mp LIM] [(LIM,68,[.mapc none ag d enc l])] (.fn 88 [.own 1 0]) [(LIM,68,[.mapc none ag d enc l]),(1,68,[.mp LIM])]:=callsB_keys ⟨Tryz.f63,by kernel_rfl,by kernel_rfl,by kernel_rfl⟩ Tryz.maps_Keys_63
theorem sortedKeys62_88 {ag:Bool} {α:Type} {d:α} {enc:α → List D} {l:List (MK × α)} (h:keysOkS l = true):CallsB Tryz.prog 62 [.fn 88 [.own (LIM + 1) 0]] [(LIM,68,[.mapc none ag d enc l]),(LIM + 1,68,[.mp LIM])] (.recs (α:=List UInt8) [] RX.encS (keysS l)) [(LIM,68,[.mapc none ag d enc l]),(LIM + 1,68,[.mp LIM])]:=callsB_sortedKeys ⟨Tryz.f62,by kernel_rfl,by kernel_rfl,by kernel_rfl⟩ (by kernel_rfl) (fun bb b nn D0 W h1 h2 h3 h4 h5=>Tryz.sorted_keys_62_88 bb b nn D0 anyR W h1 h2 h3 h4 h5) h
theorem cut55 {a b:List UInt8} (h:decide (List.length a < 4294967281) = true):CallsX Tryz.prog 55 [.str a,.str b] (.tup [.str (Lib.cut a b).1,.str (Lib.cut a b).2.1,.val (.bool (Lib.cut a b).2.2)]):=lib_cut (g:=0) ⟨Tryz.f55,by kernel_rfl,by kernel_rfl,by kernel_rfl⟩ (low_gt (by kernel_rfl)) Tryz.laysM145.s1_3 Tryz.strings_Cut h
theorem hasPrefix73 {a b:List UInt8}:CallsX Tryz.prog 73 [.str a,.str b] (.val (.bool (Lib.hasPrefix a b))):=lib_hasPrefix ⟨Tryz.f73,by kernel_rfl,by kernel_rfl,by kernel_rfl⟩ Tryz.strings_HasPrefix
theorem trim182 {a:List UInt8} {x:UInt8} (hx:x.toNat < 128) (h:decide (List.length a < 4294967281) = true):CallsX Tryz.prog 82 [.str a,.str [x]] (.str (Lib.trimB a x)):=lib_trim1 ⟨Tryz.f82,by kernel_rfl,by kernel_rfl,by kernel_rfl⟩ Tryz.strings_Trim_one hx h
theorem cutPrefix83 {a b:List UInt8}:CallsX Tryz.prog 83 [.str a,.str b] (.tup [.str (Lib.trimPrefix a b),.val (.bool (Lib.hasPrefix a b))]):=lib_cutPrefix ⟨Tryz.f83,by kernel_rfl,by kernel_rfl,by kernel_rfl⟩ Tryz.strings_CutPrefix
theorem trimLeft184 {a:List UInt8} {x:UInt8} (hx:x.toNat < 128):CallsX Tryz.prog 84 [.str a,.str [x]] (.str (Lib.trimLeftB a x)):=lib_trimLeft1 ⟨Tryz.f84,by kernel_rfl,by kernel_rfl,by kernel_rfl⟩ Tryz.strings_TrimLeft_one hx
theorem index120 {a b:List UInt8} (h:decide (List.length a < 4294967281) = true):CallsX Tryz.prog 120 [.str a,.str b] (.val (.int .i64 (Lib.index a b))):=lib_index (g:=0) ⟨Tryz.f120,by kernel_rfl,by kernel_rfl,by kernel_rfl⟩ (low_gt (by kernel_rfl)) Tryz.laysM143.s1_3 Tryz.strings_Index h
theorem trimRight1121 {a:List UInt8} {x:UInt8} (hx:x.toNat < 128) (h:decide (List.length a < 4294967281) = true):CallsX Tryz.prog 121 [.str a,.str [x]] (.str (Lib.trimRightB a x)):=lib_trimRight1 ⟨Tryz.f121,by kernel_rfl,by kernel_rfl,by kernel_rfl⟩ Tryz.strings_TrimRight_one hx h
end Go.Proofs.YtibgdilkodjojaaGreatDoor.M.Sh
