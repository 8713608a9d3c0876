import Derived.Test.YtibgdilkodjojaaDoorQRxShelf
import Derived.Test.YtibgdilkodjojaaDoorQRxLib
import Derived.Lib.RowBridge
import Derived.Test.YtibgdilkodjojaaDoorQRxKeys
import Derived.Shelf.Strings.Builder1
import Derived.Shelf.Strings.Builder2
import Derived.Shelf.Strings.Trim
import Derived.Shelf.Small.Utf8
import Derived.Shelf.Small.Bits
import Derived.Shelf.Small.Strs
import Derived.Shelf.Small.Wraps
import Derived.Shelf.Strings.BuilderF
import Derived.Shelf.Strings.BuilderK
import Derived.Shelf.Utf8.RuneCount
import Derived.Shelf.Strings.Builder2Cap
import Derived.Shelf.Strconv.Itoa0
import Derived.Shelf.Strings.Search1
import Derived.Shelf.Strings.Search2
import Derived.Shelf.Strings.Search3
import Derived.Shelf.Strings.Cut
import Derived.Shelf.Strings.Count
import Derived.Shelf.LaysM
import Derived.Shelf.Strings.Shaped
import Derived.Shelf.Sort.Plain
import Derived.Shelf.Strings.Prefix
import Derived.Shelf.Strings.Split
import Derived.Shelf.Strings.Replace
import Derived.Shelf.Strings.SplitShaped
import Derived.Shelf.Unicode.Decode
import Derived.Shelf.Strings.Runes
import Derived.Shelf.Strings.RuneCount
import Derived.Shelf.Strings.AsciiSet
import Derived.Shelf.Unicode.DecodeSlow
import Derived.Shelf.Unicode.DecodeAny
import Derived.Shelf.Unicode.DecodeLast
import Derived.Shelf.Strings.BuilderCap
import Derived.Shelf.Slices.CompactS
import Derived.Shelf.Slices.Cells
import Derived.Shelf.Slices.In.SortNone
import Derived.Shelf.SlGeneric
import Derived.Shelf.SlIter.Nil
import Derived.Shelf.SortM.Plain
import Derived.Shelf.SortM.SortNone
import Derived.Ground.GgzProg
import Derived.Ground.SlgmProg
import Derived.Shelf.Spec.SlicesGrow
import Derived.Test.YtibgdilkodjojaaDoorProg
set_option linter.all false
namespace Go.Proofs
open Go.Shelf
def Tryd.lays145_ren:Go.Shelf.Ren:=⟨fun | 145=>36 | 220=>58 | 219=>92 | 217=>126 | 225=>127 | 224=>128 | 267=>129 | 266=>144 | 314=>145 | n=>n,fun | 9=>9 | 4=>4 | 59=>83 | 3=>3 | 5=>5 | 46=>117 | 146=>178 | 51=>155 | n=>n,fun | 1=>0 | n=>n⟩
theorem Tryd.lays145:Go.Proofs.Lays.n145 Tryd.prog Tryd.lays145_ren:={
  mixed:=by kernel_rfl
  f145:=Tryd.func36.trans (congrArg some (by kernel_rfl))
  f217:=Tryd.func126.trans (congrArg some (by kernel_rfl))
  f219:=Tryd.func92.trans (congrArg some (by kernel_rfl))
  f220:=Tryd.func58.trans (congrArg some (by kernel_rfl))
  f224:=Tryd.func128.trans (congrArg some (by kernel_rfl))
  f225:=Tryd.func127.trans (congrArg some (by kernel_rfl))
  f266:=Tryd.func144.trans (congrArg some (by kernel_rfl))
  f267:=Tryd.func129.trans (congrArg some (by kernel_rfl))
  f314:=Tryd.func145.trans (congrArg some (by kernel_rfl))
  t3:=Tryd.underlying3
  a3:=Tryd.isAgg3
  z3:=Tryd.sizeOf3
  v3:=Tryd.zeroValue3
  t4:=Tryd.underlying4
  a4:=Tryd.isAgg4
  z4:=Tryd.sizeOf4
  v4:=Tryd.zeroValue4
  t5:=Tryd.underlying5
  a5:=Tryd.isAgg5
  z5:=Tryd.sizeOf5
  v5:=Tryd.zeroValue5
  t9:=Tryd.underlying9
  a9:=Tryd.isAgg9
  z9:=Tryd.sizeOf9
  v9:=Tryd.zeroValue9
  t46:=Tryd.underlying117
  a46:=Tryd.isAgg117
  z46:=Tryd.sizeOf117
  v46:=Tryd.zeroValue117
  t51:=Tryd.underlying155
  a51:=Tryd.isAgg155
  z51:=Tryd.sizeOf155
  v51:=Tryd.zeroValue155
  t59:=Tryd.underlying83
  a59:=Tryd.isAgg83
  z59:=Tryd.sizeOf83
  v59:=Tryd.zeroValue83
  t146:=Tryd.underlying178
  a146:=Tryd.isAgg178
  z146:=Tryd.sizeOf178
  v146:=Tryd.zeroValue178
  g1:=by kernel_rfl }
open Go.RowKit Go.Lib in
theorem Tryd.strings_Cut (s sep:ByteArray) (m:Int) (w:World) (hs:s.size < 4294967281) (hm:w.cell? ⟨0,0,none⟩ = some (.int .i64 m)) :
    Calls Tryd.prog 36 #[.string s,.string sep] w fun e w'=>e = .returned (.tuple #[.string ⟨(Lib.cut s.data.toList sep.data.toList).1.toArray⟩,.string ⟨(Lib.cut s.data.toList sep.data.toList).2.1.toArray⟩,.bool (Lib.cut s.data.toList sep.data.toList).2.2]) ∧ ∃ n,w' = w.drewN n:=Any.strings_Cut Tryd.lays145 s sep m w hs hm
def Tryd.laysM145_ren:Go.Shelf.Ren:=⟨fun | 145=>36 | 220=>58 | 219=>92 | 217=>126 | 225=>127 | 224=>128 | 267=>129 | 266=>144 | 314=>145 | n=>n,fun | 9=>9 | 4=>4 | 59=>83 | 3=>3 | 5=>5 | 46=>117 | 146=>178 | 51=>155 | n=>n,fun | 1=>0 | n=>n⟩
theorem Tryd.laysM145:Go.Proofs.LaysM.n145 Tryd.prog Tryd.laysM145_ren:={
  mixed:=by kernel_rfl
  f145:=Tryd.func36.trans (congrArg some (by kernel_rfl))
  f217:=Tryd.func126.trans (congrArg some (by kernel_rfl))
  f219:=Tryd.func92.trans (congrArg some (by kernel_rfl))
  f220:=Tryd.func58.trans (congrArg some (by kernel_rfl))
  f224:=Tryd.func128.trans (congrArg some (by kernel_rfl))
  f225:=Tryd.func127.trans (congrArg some (by kernel_rfl))
  f266:=Tryd.func144.trans (congrArg some (by kernel_rfl))
  f267:=Tryd.func129.trans (congrArg some (by kernel_rfl))
  f314:=Tryd.func145.trans (congrArg some (by kernel_rfl))
  t3:=Tryd.underlying3
  a3:=Tryd.isAgg3
  z3:=Tryd.sizeOf3
  v3:=Tryd.zeroValue3
  t4:=Tryd.underlying4
  a4:=Tryd.isAgg4
  z4:=Tryd.sizeOf4
  v4:=Tryd.zeroValue4
  t5:=Tryd.underlying5
  a5:=Tryd.isAgg5
  z5:=Tryd.sizeOf5
  v5:=Tryd.zeroValue5
  t9:=Tryd.underlying9
  a9:=Tryd.isAgg9
  z9:=Tryd.sizeOf9
  v9:=Tryd.zeroValue9
  t46:=Tryd.underlying117
  a46:=Tryd.isAgg117
  z46:=Tryd.sizeOf117
  v46:=Tryd.zeroValue117
  t51:=Tryd.underlying155
  a51:=Tryd.isAgg155
  z51:=Tryd.sizeOf155
  v51:=Tryd.zeroValue155
  t59:=Tryd.underlying83
  a59:=Tryd.isAgg83
  z59:=Tryd.sizeOf83
  v59:=Tryd.zeroValue83
  t146:=Tryd.underlying178
  a146:=Tryd.isAgg178
  z146:=Tryd.sizeOf178
  v146:=Tryd.zeroValue178
  g1:=by kernel_rfl
  i3:=by kernel_rfl
  i4:=by kernel_rfl
  i5:=by kernel_rfl
  i9:=by kernel_rfl
  i46:=by kernel_rfl
  i51:=by kernel_rfl
  i59:=by kernel_rfl
  i146:=by kernel_rfl
  m1:=by kernel_rfl
  s1_3:=fun w h=>Go.Proofs.cell_of_shapedOpen_int (zero:=#[.int .i64 0]) (t:=3) h (of_decide_eq_true (by kernel_rfl)) (by kernel_rfl) rfl (by kernel_rfl) (by kernel_rfl) Tryd.underlying3 }
def Tryd.lays99_ren:Go.Shelf.Ren:=⟨fun | 99=>49 | 206=>79 | n=>n,fun | 9=>9 | 4=>4 | 3=>3 | n=>n,fun | n=>n⟩
theorem Tryd.lays99:Go.Proofs.Lays.n99 Tryd.prog Tryd.lays99_ren:={
  mixed:=by kernel_rfl
  f99:=Tryd.func49.trans (congrArg some (by kernel_rfl))
  f206:=Tryd.func79.trans (congrArg some (by kernel_rfl))
  t3:=Tryd.underlying3
  a3:=Tryd.isAgg3
  z3:=Tryd.sizeOf3
  v3:=Tryd.zeroValue3
  t4:=Tryd.underlying4
  a4:=Tryd.isAgg4
  z4:=Tryd.sizeOf4
  v4:=Tryd.zeroValue4
  t9:=Tryd.underlying9
  a9:=Tryd.isAgg9
  z9:=Tryd.sizeOf9
  v9:=Tryd.zeroValue9 }
open Go.RowKit Go.Lib in
theorem Tryd.strings_HasPrefix (s p:ByteArray) (w:World) :
    Calls Tryd.prog 49 #[.string s,.string p] w fun e w'=>e = .returned (.bool (Lib.hasPrefix s.data.toList p.data.toList)) ∧ w' = w:=Any.strings_HasPrefix Tryd.lays99 s p w
def Tryd.lays160_ren:Go.Shelf.Ren:=⟨fun | 160=>59 | 232=>94 | 231=>93 | 227=>95 | 234=>97 | 233=>96 | 236=>99 | 235=>98 | 228=>130 | 271=>132 | 151=>131 | 197=>91 | 120=>147 | 152=>146 | 260=>125 | 137=>151 | 119=>152 | 224=>128 | 225=>127 | 217=>126 | 266=>144 | n=>n,fun | 9=>9 | 4=>4 | 3=>3 | 5=>5 | 117=>139 | 116=>138 | 0=>0 | 124=>142 | 21=>21 | 105=>134 | 46=>117 | 119=>174 | 139=>177 | 138=>176 | n=>n,fun | 3=>1 | 4=>2 | n=>n⟩
theorem Tryd.lays160:Go.Proofs.Lays.n160 Tryd.prog Tryd.lays160_ren:={
  mixed:=by kernel_rfl
  f119:=Tryd.func152.trans (congrArg some (by kernel_rfl))
  f120:=Tryd.func147.trans (congrArg some (by kernel_rfl))
  f137:=Tryd.func151.trans (congrArg some (by kernel_rfl))
  f151:=Tryd.func131.trans (congrArg some (by kernel_rfl))
  f152:=Tryd.func146.trans (congrArg some (by kernel_rfl))
  f160:=Tryd.func59.trans (congrArg some (by kernel_rfl))
  f197:=Tryd.func91.trans (congrArg some (by kernel_rfl))
  f217:=Tryd.func126.trans (congrArg some (by kernel_rfl))
  f224:=Tryd.func128.trans (congrArg some (by kernel_rfl))
  f225:=Tryd.func127.trans (congrArg some (by kernel_rfl))
  f227:=Tryd.func95.trans (congrArg some (by kernel_rfl))
  f228:=Tryd.func130.trans (congrArg some (by kernel_rfl))
  f231:=Tryd.func93.trans (congrArg some (by kernel_rfl))
  f232:=Tryd.func94.trans (congrArg some (by kernel_rfl))
  f233:=Tryd.func96.trans (congrArg some (by kernel_rfl))
  f234:=Tryd.func97.trans (congrArg some (by kernel_rfl))
  f235:=Tryd.func98.trans (congrArg some (by kernel_rfl))
  f236:=Tryd.func99.trans (congrArg some (by kernel_rfl))
  f260:=Tryd.func125.trans (congrArg some (by kernel_rfl))
  f266:=Tryd.func144.trans (congrArg some (by kernel_rfl))
  f271:=Tryd.func132.trans (congrArg some (by kernel_rfl))
  t0:=Tryd.underlying0
  a0:=Tryd.isAgg0
  z0:=Tryd.sizeOf0
  v0:=Tryd.zeroValue0
  t3:=Tryd.underlying3
  a3:=Tryd.isAgg3
  z3:=Tryd.sizeOf3
  v3:=Tryd.zeroValue3
  t4:=Tryd.underlying4
  a4:=Tryd.isAgg4
  z4:=Tryd.sizeOf4
  v4:=Tryd.zeroValue4
  t5:=Tryd.underlying5
  a5:=Tryd.isAgg5
  z5:=Tryd.sizeOf5
  v5:=Tryd.zeroValue5
  t9:=Tryd.underlying9
  a9:=Tryd.isAgg9
  z9:=Tryd.sizeOf9
  v9:=Tryd.zeroValue9
  t21:=Tryd.underlying21
  a21:=Tryd.isAgg21
  z21:=Tryd.sizeOf21
  v21:=Tryd.zeroValue21
  t46:=Tryd.underlying117
  a46:=Tryd.isAgg117
  z46:=Tryd.sizeOf117
  v46:=Tryd.zeroValue117
  t105:=Tryd.underlying134
  a105:=Tryd.isAgg134
  z105:=Tryd.sizeOf134
  v105:=Tryd.zeroValue134
  t116:=Tryd.underlying138
  a116:=Tryd.isAgg138
  z116:=Tryd.sizeOf138
  t117:=Tryd.underlying139
  a117:=Tryd.isAgg139
  z117:=Tryd.sizeOf139
  v117:=Tryd.zeroValue139
  t119:=Tryd.underlying174
  a119:=Tryd.isAgg174
  z119:=Tryd.sizeOf174
  t124:=Tryd.underlying142
  a124:=Tryd.isAgg142
  z124:=Tryd.sizeOf142
  v124:=Tryd.zeroValue142
  t138:=Tryd.underlying176
  a138:=Tryd.isAgg176
  z138:=Tryd.sizeOf176
  v138:=Tryd.zeroValue176
  t139:=Tryd.underlying177
  a139:=Tryd.isAgg177
  z139:=Tryd.sizeOf177
  v139:=Tryd.zeroValue177
  g3:=by kernel_rfl
  g4:=by kernel_rfl }
open Go.RowKit in
theorem Tryd.strings_Trim_one (s:ByteArray) (c:UInt8) (hc:c.toNat < 128) (w:World) (hs:s.size ≤ 9223372036854775807) :
    Calls Tryd.prog 59 #[.string s,.string ⟨#[c]⟩] w fun e w'=>e = .returned (.string ⟨(Lib.trimB s.data.toList c).toArray⟩) ∧ (w' = w ∨ w' = w.drew):=Any.strings_Trim_one Tryd.lays160 s c hc w hs
def Tryd.lays103_ren:Go.Shelf.Ren:=⟨fun | 103=>60 | 210=>100 | 206=>79 | n=>n,fun | 9=>9 | 4=>4 | 24=>52 | 3=>3 | n=>n,fun | n=>n⟩
theorem Tryd.lays103:Go.Proofs.Lays.n103 Tryd.prog Tryd.lays103_ren:={
  mixed:=by kernel_rfl
  f103:=Tryd.func60.trans (congrArg some (by kernel_rfl))
  f206:=Tryd.func79.trans (congrArg some (by kernel_rfl))
  f210:=Tryd.func100.trans (congrArg some (by kernel_rfl))
  t3:=Tryd.underlying3
  a3:=Tryd.isAgg3
  z3:=Tryd.sizeOf3
  v3:=Tryd.zeroValue3
  t4:=Tryd.underlying4
  a4:=Tryd.isAgg4
  z4:=Tryd.sizeOf4
  v4:=Tryd.zeroValue4
  t9:=Tryd.underlying9
  a9:=Tryd.isAgg9
  z9:=Tryd.sizeOf9
  v9:=Tryd.zeroValue9
  t24:=Tryd.underlying52
  a24:=Tryd.isAgg52
  z24:=Tryd.sizeOf52
  v24:=Tryd.zeroValue52 }
open Go.RowKit in
theorem Tryd.strings_CutPrefix (s p:ByteArray) (w:World) :
    Calls Tryd.prog 60 #[.string s,.string p] w fun e w'=>e = .returned (.tuple #[.string ⟨(Lib.trimPrefix s.data.toList p.data.toList).toArray⟩,.bool (Lib.hasPrefix s.data.toList p.data.toList)]) ∧ w' = w:=Any.strings_CutPrefix Tryd.lays103 s p w
def Tryd.lays161_ren:Go.Shelf.Ren:=⟨fun | 161=>61 | 231=>93 | 227=>95 | 233=>96 | 235=>98 | 228=>130 | 197=>91 | 151=>131 | 260=>125 | 152=>146 | 137=>151 | 119=>152 | 224=>128 | 225=>127 | 217=>126 | 266=>144 | n=>n,fun | 9=>9 | 4=>4 | 3=>3 | 5=>5 | 117=>139 | 116=>138 | 0=>0 | 124=>142 | 105=>134 | 21=>21 | 119=>174 | 46=>117 | 139=>177 | 138=>176 | n=>n,fun | 3=>1 | 4=>2 | n=>n⟩
theorem Tryd.lays161:Go.Proofs.Lays.n161 Tryd.prog Tryd.lays161_ren:={
  mixed:=by kernel_rfl
  f119:=Tryd.func152.trans (congrArg some (by kernel_rfl))
  f137:=Tryd.func151.trans (congrArg some (by kernel_rfl))
  f151:=Tryd.func131.trans (congrArg some (by kernel_rfl))
  f152:=Tryd.func146.trans (congrArg some (by kernel_rfl))
  f161:=Tryd.func61.trans (congrArg some (by kernel_rfl))
  f197:=Tryd.func91.trans (congrArg some (by kernel_rfl))
  f217:=Tryd.func126.trans (congrArg some (by kernel_rfl))
  f224:=Tryd.func128.trans (congrArg some (by kernel_rfl))
  f225:=Tryd.func127.trans (congrArg some (by kernel_rfl))
  f227:=Tryd.func95.trans (congrArg some (by kernel_rfl))
  f228:=Tryd.func130.trans (congrArg some (by kernel_rfl))
  f231:=Tryd.func93.trans (congrArg some (by kernel_rfl))
  f233:=Tryd.func96.trans (congrArg some (by kernel_rfl))
  f235:=Tryd.func98.trans (congrArg some (by kernel_rfl))
  f260:=Tryd.func125.trans (congrArg some (by kernel_rfl))
  f266:=Tryd.func144.trans (congrArg some (by kernel_rfl))
  t0:=Tryd.underlying0
  a0:=Tryd.isAgg0
  z0:=Tryd.sizeOf0
  v0:=Tryd.zeroValue0
  t3:=Tryd.underlying3
  a3:=Tryd.isAgg3
  z3:=Tryd.sizeOf3
  v3:=Tryd.zeroValue3
  t4:=Tryd.underlying4
  a4:=Tryd.isAgg4
  z4:=Tryd.sizeOf4
  v4:=Tryd.zeroValue4
  t5:=Tryd.underlying5
  a5:=Tryd.isAgg5
  z5:=Tryd.sizeOf5
  v5:=Tryd.zeroValue5
  t9:=Tryd.underlying9
  a9:=Tryd.isAgg9
  z9:=Tryd.sizeOf9
  v9:=Tryd.zeroValue9
  t21:=Tryd.underlying21
  a21:=Tryd.isAgg21
  z21:=Tryd.sizeOf21
  v21:=Tryd.zeroValue21
  t46:=Tryd.underlying117
  a46:=Tryd.isAgg117
  z46:=Tryd.sizeOf117
  v46:=Tryd.zeroValue117
  t105:=Tryd.underlying134
  a105:=Tryd.isAgg134
  z105:=Tryd.sizeOf134
  v105:=Tryd.zeroValue134
  t116:=Tryd.underlying138
  a116:=Tryd.isAgg138
  z116:=Tryd.sizeOf138
  t117:=Tryd.underlying139
  a117:=Tryd.isAgg139
  z117:=Tryd.sizeOf139
  v117:=Tryd.zeroValue139
  t119:=Tryd.underlying174
  a119:=Tryd.isAgg174
  z119:=Tryd.sizeOf174
  t124:=Tryd.underlying142
  a124:=Tryd.isAgg142
  z124:=Tryd.sizeOf142
  v124:=Tryd.zeroValue142
  t138:=Tryd.underlying176
  a138:=Tryd.isAgg176
  z138:=Tryd.sizeOf176
  v138:=Tryd.zeroValue176
  t139:=Tryd.underlying177
  a139:=Tryd.isAgg177
  z139:=Tryd.sizeOf177
  v139:=Tryd.zeroValue177
  g3:=by kernel_rfl
  g4:=by kernel_rfl }
open Go.RowKit in
theorem Tryd.strings_TrimLeft_one (s:ByteArray) (c:UInt8) (hc:c.toNat < 128) (w:World) :
    Calls Tryd.prog 61 #[.string s,.string ⟨#[c]⟩] w fun e w'=>e = .returned (.string ⟨(Lib.trimLeftB s.data.toList c).toArray⟩) ∧ w' = w:=Any.strings_TrimLeft_one Tryd.lays161 s c hc w
def Tryd.lays143_ren:Go.Shelf.Ren:=⟨fun | 143=>90 | 219=>92 | 217=>126 | 225=>127 | 224=>128 | 267=>129 | 266=>144 | 314=>145 | n=>n,fun | 9=>9 | 3=>3 | 4=>4 | 5=>5 | 46=>117 | 146=>178 | 51=>155 | n=>n,fun | 1=>0 | n=>n⟩
theorem Tryd.lays143:Go.Proofs.Lays.n143 Tryd.prog Tryd.lays143_ren:={
  mixed:=by kernel_rfl
  f143:=Tryd.func90.trans (congrArg some (by kernel_rfl))
  f217:=Tryd.func126.trans (congrArg some (by kernel_rfl))
  f219:=Tryd.func92.trans (congrArg some (by kernel_rfl))
  f224:=Tryd.func128.trans (congrArg some (by kernel_rfl))
  f225:=Tryd.func127.trans (congrArg some (by kernel_rfl))
  f266:=Tryd.func144.trans (congrArg some (by kernel_rfl))
  f267:=Tryd.func129.trans (congrArg some (by kernel_rfl))
  f314:=Tryd.func145.trans (congrArg some (by kernel_rfl))
  t3:=Tryd.underlying3
  a3:=Tryd.isAgg3
  z3:=Tryd.sizeOf3
  v3:=Tryd.zeroValue3
  t4:=Tryd.underlying4
  a4:=Tryd.isAgg4
  z4:=Tryd.sizeOf4
  v4:=Tryd.zeroValue4
  t5:=Tryd.underlying5
  a5:=Tryd.isAgg5
  z5:=Tryd.sizeOf5
  v5:=Tryd.zeroValue5
  t9:=Tryd.underlying9
  a9:=Tryd.isAgg9
  z9:=Tryd.sizeOf9
  v9:=Tryd.zeroValue9
  t46:=Tryd.underlying117
  a46:=Tryd.isAgg117
  z46:=Tryd.sizeOf117
  v46:=Tryd.zeroValue117
  t51:=Tryd.underlying155
  a51:=Tryd.isAgg155
  z51:=Tryd.sizeOf155
  v51:=Tryd.zeroValue155
  t146:=Tryd.underlying178
  a146:=Tryd.isAgg178
  z146:=Tryd.sizeOf178
  v146:=Tryd.zeroValue178
  g1:=by kernel_rfl }
open Go.RowKit Go.Lib in
theorem Tryd.strings_Index (s sub:ByteArray) (m:Int) (w:World) (hs:s.size < 4294967281) (hm:w.cell? ⟨0,0,none⟩ = some (.int .i64 m)) :
    Calls Tryd.prog 90 #[.string s,.string sub] w fun e w'=>e = .returned (.int .i64 (Lib.index s.data.toList sub.data.toList)) ∧ w' = w:=Any.strings_Index Tryd.lays143 s sub m w hs hm
def Tryd.laysM143_ren:Go.Shelf.Ren:=⟨fun | 143=>90 | 219=>92 | 217=>126 | 225=>127 | 224=>128 | 267=>129 | 266=>144 | 314=>145 | n=>n,fun | 9=>9 | 3=>3 | 4=>4 | 5=>5 | 46=>117 | 146=>178 | 51=>155 | n=>n,fun | 1=>0 | n=>n⟩
theorem Tryd.laysM143:Go.Proofs.LaysM.n143 Tryd.prog Tryd.laysM143_ren:={
  mixed:=by kernel_rfl
  f143:=Tryd.func90.trans (congrArg some (by kernel_rfl))
  f217:=Tryd.func126.trans (congrArg some (by kernel_rfl))
  f219:=Tryd.func92.trans (congrArg some (by kernel_rfl))
  f224:=Tryd.func128.trans (congrArg some (by kernel_rfl))
  f225:=Tryd.func127.trans (congrArg some (by kernel_rfl))
  f266:=Tryd.func144.trans (congrArg some (by kernel_rfl))
  f267:=Tryd.func129.trans (congrArg some (by kernel_rfl))
  f314:=Tryd.func145.trans (congrArg some (by kernel_rfl))
  t3:=Tryd.underlying3
  a3:=Tryd.isAgg3
  z3:=Tryd.sizeOf3
  v3:=Tryd.zeroValue3
  t4:=Tryd.underlying4
  a4:=Tryd.isAgg4
  z4:=Tryd.sizeOf4
  v4:=Tryd.zeroValue4
  t5:=Tryd.underlying5
  a5:=Tryd.isAgg5
  z5:=Tryd.sizeOf5
  v5:=Tryd.zeroValue5
  t9:=Tryd.underlying9
  a9:=Tryd.isAgg9
  z9:=Tryd.sizeOf9
  v9:=Tryd.zeroValue9
  t46:=Tryd.underlying117
  a46:=Tryd.isAgg117
  z46:=Tryd.sizeOf117
  v46:=Tryd.zeroValue117
  t51:=Tryd.underlying155
  a51:=Tryd.isAgg155
  z51:=Tryd.sizeOf155
  v51:=Tryd.zeroValue155
  t146:=Tryd.underlying178
  a146:=Tryd.isAgg178
  z146:=Tryd.sizeOf178
  v146:=Tryd.zeroValue178
  g1:=by kernel_rfl
  i3:=by kernel_rfl
  i4:=by kernel_rfl
  i5:=by kernel_rfl
  i9:=by kernel_rfl
  i46:=by kernel_rfl
  i51:=by kernel_rfl
  i146:=by kernel_rfl
  m1:=by kernel_rfl
  s1_3:=fun w h=>Go.Proofs.cell_of_shapedOpen_int (zero:=#[.int .i64 0]) (t:=3) h (of_decide_eq_true (by kernel_rfl)) (by kernel_rfl) rfl (by kernel_rfl) (by kernel_rfl) Tryd.underlying3 }
def Tryd.lays162_ren:Go.Shelf.Ren:=⟨fun | 162=>102 | 232=>94 | 227=>95 | 234=>97 | 236=>99 | 228=>130 | 271=>132 | 151=>131 | 120=>147 | 197=>91 | 152=>146 | 260=>125 | 137=>151 | 119=>152 | 224=>128 | 225=>127 | 217=>126 | 266=>144 | n=>n,fun | 9=>9 | 4=>4 | 3=>3 | 5=>5 | 117=>139 | 116=>138 | 0=>0 | 124=>142 | 21=>21 | 105=>134 | 46=>117 | 119=>174 | 139=>177 | 138=>176 | n=>n,fun | 3=>1 | 4=>2 | n=>n⟩
theorem Tryd.lays162:Go.Proofs.Lays.n162 Tryd.prog Tryd.lays162_ren:={
  mixed:=by kernel_rfl
  f119:=Tryd.func152.trans (congrArg some (by kernel_rfl))
  f120:=Tryd.func147.trans (congrArg some (by kernel_rfl))
  f137:=Tryd.func151.trans (congrArg some (by kernel_rfl))
  f151:=Tryd.func131.trans (congrArg some (by kernel_rfl))
  f152:=Tryd.func146.trans (congrArg some (by kernel_rfl))
  f162:=Tryd.func102.trans (congrArg some (by kernel_rfl))
  f197:=Tryd.func91.trans (congrArg some (by kernel_rfl))
  f217:=Tryd.func126.trans (congrArg some (by kernel_rfl))
  f224:=Tryd.func128.trans (congrArg some (by kernel_rfl))
  f225:=Tryd.func127.trans (congrArg some (by kernel_rfl))
  f227:=Tryd.func95.trans (congrArg some (by kernel_rfl))
  f228:=Tryd.func130.trans (congrArg some (by kernel_rfl))
  f232:=Tryd.func94.trans (congrArg some (by kernel_rfl))
  f234:=Tryd.func97.trans (congrArg some (by kernel_rfl))
  f236:=Tryd.func99.trans (congrArg some (by kernel_rfl))
  f260:=Tryd.func125.trans (congrArg some (by kernel_rfl))
  f266:=Tryd.func144.trans (congrArg some (by kernel_rfl))
  f271:=Tryd.func132.trans (congrArg some (by kernel_rfl))
  t0:=Tryd.underlying0
  a0:=Tryd.isAgg0
  z0:=Tryd.sizeOf0
  v0:=Tryd.zeroValue0
  t3:=Tryd.underlying3
  a3:=Tryd.isAgg3
  z3:=Tryd.sizeOf3
  v3:=Tryd.zeroValue3
  t4:=Tryd.underlying4
  a4:=Tryd.isAgg4
  z4:=Tryd.sizeOf4
  v4:=Tryd.zeroValue4
  t5:=Tryd.underlying5
  a5:=Tryd.isAgg5
  z5:=Tryd.sizeOf5
  v5:=Tryd.zeroValue5
  t9:=Tryd.underlying9
  a9:=Tryd.isAgg9
  z9:=Tryd.sizeOf9
  v9:=Tryd.zeroValue9
  t21:=Tryd.underlying21
  a21:=Tryd.isAgg21
  z21:=Tryd.sizeOf21
  v21:=Tryd.zeroValue21
  t46:=Tryd.underlying117
  a46:=Tryd.isAgg117
  z46:=Tryd.sizeOf117
  v46:=Tryd.zeroValue117
  t105:=Tryd.underlying134
  a105:=Tryd.isAgg134
  z105:=Tryd.sizeOf134
  v105:=Tryd.zeroValue134
  t116:=Tryd.underlying138
  a116:=Tryd.isAgg138
  z116:=Tryd.sizeOf138
  t117:=Tryd.underlying139
  a117:=Tryd.isAgg139
  z117:=Tryd.sizeOf139
  v117:=Tryd.zeroValue139
  t119:=Tryd.underlying174
  a119:=Tryd.isAgg174
  z119:=Tryd.sizeOf174
  t124:=Tryd.underlying142
  a124:=Tryd.isAgg142
  z124:=Tryd.sizeOf142
  v124:=Tryd.zeroValue142
  t138:=Tryd.underlying176
  a138:=Tryd.isAgg176
  z138:=Tryd.sizeOf176
  v138:=Tryd.zeroValue176
  t139:=Tryd.underlying177
  a139:=Tryd.isAgg177
  z139:=Tryd.sizeOf177
  v139:=Tryd.zeroValue177
  g3:=by kernel_rfl
  g4:=by kernel_rfl }
open Go.RowKit in
theorem Tryd.strings_TrimRight_one (s:ByteArray) (c:UInt8) (hc:c.toNat < 128) (w:World) (hs:s.size ≤ 9223372036854775807) :
    Calls Tryd.prog 102 #[.string s,.string ⟨#[c]⟩] w fun e w'=>e = .returned (.string ⟨(Lib.trimRightB s.data.toList c).toArray⟩) ∧ w' = w:=Any.strings_TrimRight_one Tryd.lays162 s c hc w hs
def Tryd.keys64_ren:Go.Shelf.Ren:=⟨fun | 7=>64 | 10=>104 | n=>n,fun | 23=>82 | 26=>9 | 3=>88 | 28=>111 | 0=>0 | 27=>110 | 33=>49 | 4=>4 | n=>n,fun | n=>n⟩
theorem Tryd.keys64:Go.Proofs.SlLaysZ.n7 Tryd.prog Tryd.keys64_ren:={
  mixed:=by kernel_rfl
  f7:=⟨Tryd.f64.name,by decide,Tryd.func64.trans (congrArg some (by kernel_rfl))⟩
  f10:=⟨Tryd.f104.name,by decide,Tryd.func104.trans (congrArg some (by kernel_rfl))⟩
  t0:=Tryd.underlying0
  a0:=Tryd.isAgg0
  z0:=Tryd.sizeOf0
  v0:=Tryd.zeroValue0
  t4:=Tryd.underlying4
  a4:=Tryd.isAgg4
  z4:=Tryd.sizeOf4
  v4:=Tryd.zeroValue4
  t23:=Tryd.underlying82
  a23:=Tryd.isAgg82
  z23:=Tryd.sizeOf82
  v23:=Tryd.zeroValue82
  t26:=Tryd.underlying9
  a26:=Tryd.isAgg9
  z26:=Tryd.sizeOf9
  v26:=Tryd.zeroValue9
  t27:=Tryd.underlying110
  a27:=Tryd.isAgg110
  z27:=Tryd.sizeOf110
  v27:=Tryd.zeroValue110
  t28:=Tryd.underlying111
  a28:=Tryd.isAgg111
  z28:=Tryd.sizeOf111
  v28:=Tryd.zeroValue111
  t33:=Tryd.underlying49
  a33:=Tryd.isAgg49
  z33:=Tryd.sizeOf49
  v33:=Tryd.zeroValue49 }
def Tryd.sorted63_ren:Go.Shelf.Ren:=⟨fun | 6=>63 | 8=>103 | 9=>54 | 11=>134 | 13=>86 | 12=>85 | 23=>120 | 24=>121 | 14=>111 | 15=>112 | 16=>113 | 17=>114 | 18=>115 | 19=>116 | 20=>117 | 21=>118 | 22=>119 | 25=>137 | 26=>138 | 27=>139 | 28=>140 | 29=>141 | 30=>142 | 31=>150 | n=>n,fun | 26=>9 | 28=>111 | 24=>39 | 0=>0 | 3=>3 | 37=>117 | 48=>155 | 50=>157 | 4=>4 | 40=>148 | 39=>147 | 45=>152 | 5=>5 | 9=>9 | 51=>167 | 55=>171 | 57=>183 | 58=>121 | 33=>49 | n=>n,fun | n=>n⟩
theorem Tryd.sorted63:Go.Proofs.SlLaysZ.n6 Tryd.prog Tryd.sorted63_ren:={
  mixed:=by kernel_rfl
  f6:=⟨Tryd.f63.name,by decide,Tryd.func63.trans (congrArg some (by kernel_rfl))⟩
  f8:=⟨Tryd.f103.name,by decide,Tryd.func103.trans (congrArg some (by kernel_rfl))⟩
  f11:=⟨Tryd.f134.name,by decide,Tryd.func134.trans (congrArg some (by kernel_rfl))⟩
  t0:=Tryd.underlying0
  a0:=Tryd.isAgg0
  z0:=Tryd.sizeOf0
  v0:=Tryd.zeroValue0
  t24:=Tryd.underlying39
  a24:=Tryd.isAgg39
  z24:=Tryd.sizeOf39
  v24:=Tryd.zeroValue39
  t26:=Tryd.underlying9
  a26:=Tryd.isAgg9
  z26:=Tryd.sizeOf9
  v26:=Tryd.zeroValue9
  t28:=Tryd.underlying111
  a28:=Tryd.isAgg111
  z28:=Tryd.sizeOf111
  v28:=Tryd.zeroValue111
  i26:=by kernel_rfl }
def Tryd.sort54_ren:Go.Shelf.Ren:=⟨fun | 6=>54 | 8=>86 | 9=>85 | 19=>120 | 20=>121 | 21=>111 | 22=>112 | 23=>113 | 24=>114 | 25=>115 | 26=>116 | 27=>117 | 28=>118 | 29=>119 | 36=>137 | 31=>138 | 32=>139 | 37=>140 | 38=>141 | 39=>142 | 41=>150 | n=>n,fun | 27=>39 | 29=>9 | 3=>3 | 32=>117 | 26=>39 | 0=>0 | 44=>155 | 46=>157 | 4=>4 | 36=>148 | 35=>147 | 41=>152 | 5=>5 | 9=>9 | 53=>167 | 57=>171 | 63=>183 | 64=>121 | n=>n,fun | n=>n⟩
theorem Tryd.sort54:Go.Proofs.SlLaysM.n6 Tryd.prog Tryd.sort54_ren:={
  mixed:=by kernel_rfl
  f6:=⟨Tryd.f54.name,by decide,Tryd.func54.trans (congrArg some (by kernel_rfl))⟩
  f8:=Tryd.func86.trans (congrArg some (by kernel_rfl))
  f9:=⟨Tryd.f85.name,by decide,Tryd.func85.trans (congrArg some (by kernel_rfl))⟩
  f19:=Tryd.func120.trans (congrArg some (by kernel_rfl))
  f20:=Tryd.func121.trans (congrArg some (by kernel_rfl))
  f21:=⟨Tryd.f111.name,by decide,Tryd.func111.trans (congrArg some (by kernel_rfl))⟩
  f22:=⟨Tryd.f112.name,by decide,Tryd.func112.trans (congrArg some (by kernel_rfl))⟩
  f23:=⟨Tryd.f113.name,by decide,Tryd.func113.trans (congrArg some (by kernel_rfl))⟩
  f24:=⟨Tryd.f114.name,by decide,Tryd.func114.trans (congrArg some (by kernel_rfl))⟩
  f25:=⟨Tryd.f115.name,by decide,Tryd.func115.trans (congrArg some (by kernel_rfl))⟩
  f26:=⟨Tryd.f116.name,by decide,Tryd.func116.trans (congrArg some (by kernel_rfl))⟩
  f27:=⟨Tryd.f117.name,by decide,Tryd.func117.trans (congrArg some (by kernel_rfl))⟩
  f28:=⟨Tryd.f118.name,by decide,Tryd.func118.trans (congrArg some (by kernel_rfl))⟩
  f29:=⟨Tryd.f119.name,by decide,Tryd.func119.trans (congrArg some (by kernel_rfl))⟩
  f31:=Tryd.func138.trans (congrArg some (by kernel_rfl))
  f32:=Tryd.func139.trans (congrArg some (by kernel_rfl))
  f36:=⟨Tryd.f137.name,by decide,Tryd.func137.trans (congrArg some (by kernel_rfl))⟩
  f37:=⟨Tryd.f140.name,by decide,Tryd.func140.trans (congrArg some (by kernel_rfl))⟩
  f38:=⟨Tryd.f141.name,by decide,Tryd.func141.trans (congrArg some (by kernel_rfl))⟩
  f39:=⟨Tryd.f142.name,by decide,Tryd.func142.trans (congrArg some (by kernel_rfl))⟩
  f41:=⟨Tryd.f150.name,by decide,Tryd.func150.trans (congrArg some (by kernel_rfl))⟩
  t0:=Tryd.underlying0
  a0:=Tryd.isAgg0
  z0:=Tryd.sizeOf0
  v0:=Tryd.zeroValue0
  t3:=Tryd.underlying3
  a3:=Tryd.isAgg3
  z3:=Tryd.sizeOf3
  v3:=Tryd.zeroValue3
  t4:=Tryd.underlying4
  a4:=Tryd.isAgg4
  z4:=Tryd.sizeOf4
  v4:=Tryd.zeroValue4
  t5:=Tryd.underlying5
  a5:=Tryd.isAgg5
  z5:=Tryd.sizeOf5
  v5:=Tryd.zeroValue5
  t9:=Tryd.underlying9
  a9:=Tryd.isAgg9
  z9:=Tryd.sizeOf9
  v9:=Tryd.zeroValue9
  t26:=Tryd.underlying39
  a26:=Tryd.isAgg39
  z26:=Tryd.sizeOf39
  v26:=Tryd.zeroValue39
  t27:=Tryd.underlying39
  a27:=Tryd.isAgg39
  z27:=Tryd.sizeOf39
  v27:=Tryd.zeroValue39
  t29:=Tryd.underlying9
  a29:=Tryd.isAgg9
  z29:=Tryd.sizeOf9
  v29:=Tryd.zeroValue9
  t32:=Tryd.underlying117
  a32:=Tryd.isAgg117
  z32:=Tryd.sizeOf117
  v32:=Tryd.zeroValue117
  t35:=Tryd.underlying147
  a35:=Tryd.isAgg147
  z35:=Tryd.sizeOf147
  v35:=Tryd.zeroValue147
  t36:=Tryd.underlying148
  a36:=Tryd.isAgg148
  z36:=Tryd.sizeOf148
  v36:=Tryd.zeroValue148
  t41:=Tryd.underlying152
  a41:=Tryd.isAgg152
  z41:=Tryd.sizeOf152
  v41:=Tryd.zeroValue152
  t44:=Tryd.underlying155
  a44:=Tryd.isAgg155
  z44:=Tryd.sizeOf155
  v44:=Tryd.zeroValue155
  t46:=Tryd.underlying157
  a46:=Tryd.isAgg157
  z46:=Tryd.sizeOf157
  v46:=Tryd.zeroValue157
  t53:=Tryd.underlying167
  a53:=Tryd.isAgg167
  z53:=Tryd.sizeOf167
  v53:=Tryd.zeroValue167
  t57:=Tryd.underlying171
  a57:=Tryd.isAgg171
  z57:=Tryd.sizeOf171
  v57:=Tryd.zeroValue171
  t63:=Tryd.underlying183
  a63:=Tryd.isAgg183
  z63:=Tryd.sizeOf183
  v63:=Tryd.zeroValue183
  t64:=Tryd.underlying121
  a64:=Tryd.isAgg121
  z64:=Tryd.sizeOf121
  v64:=Tryd.zeroValue121 }
open Go.RowKit Go.Maps Go.Sort in
theorem Tryd.sorts63 (m:Nat):AnyZ.SortsIn Tryd.prog Tryd.sorted63_ren Fence.wide m :=
  ⟨fun blk off cap ss W hH hblk hsz=>callsIn_wide.2 (AnyM.slices_Sort_string Tryd.sort54 blk off cap ss W hH hblk hsz),
   fun p cap W=>callsIn_wide.2 (AnyM.slices_Sort_string_none Tryd.sort54 p cap W)⟩
open Go.RowKit Go.Maps Go.Sort in
theorem Tryd.sorted_keys_63_104 {H:Type} (bb b nn:Nat) (D0:DataW H) (R:Value → Option (DataW H × List MemPlace)) (W:World) (hbb:bb < W.heap.size) (hcell:W.cell? ⟨bb,0,none⟩ = some (.map (some b))) (hown:W.ownsMap Tryd.prog 9 R b nn D0) (hmax:Maps.size D0 ≤ maxLen) (hbytes:Maps.size D0 * 16 ≤ 140737488355328) :
    CallsIn Fence.wide 5 Tryd.prog 63 #[.func (.func 104) #[] #[.pointer (some ⟨bb,0,none⟩)]] W fun e w'=>∃ (v:Value) (ss:List (List UInt8)),e = .returned v ∧ ss.Perm (strKeys D0) ∧
      w'.ownsRow W.heap.size 9 1 v ss.length ((ss.mergeSort (fun x y=>decide (x ≤ y))).map encStr) ∧ (v = .slice none 0 0 ↔ ss = []) ∧ Below W.heap.size W w':=by
  have hseq:SeqGives Fence.wide 2 Tryd.prog 104 #[.pointer (some ⟨bb,0,none⟩)] encStr (fun ss=>ss.Perm (strKeys D0)) (Maps.size D0) W :=
    AnyZ.keys_gives (ρ:=Tryd.keys64_ren) { Tryd.keys64 with } Fence.wide _ trivial rfl (by omega) bb b nn D0 W hbb hcell hown
  exact AnyZ.sorted_in Tryd.sorted63 Fence.wide 5 trivial trivial trivial trivial rfl (by omega) (Tryd.sorts63 _) (enters_of Tryd.func54 (by kernel_rfl) rfl) 104 #[.pointer (some ⟨bb,0,none⟩)] trivial (enters_of Tryd.func104 (by kernel_rfl) rfl) _ _ hmax hbytes _ hseq
open Go.RowKit Go.Maps Go.Sort in
theorem Tryd.maps_Keys_64 (mb:Option Nat) (W:World):CallsIn Fence.wide 5 Tryd.prog 64 #[.map mb] W fun e w'=>e = .returned (.func (.func 104) #[] #[.pointer (some ⟨W.heap.size,0,none⟩)]) ∧ w' = W.alloc (.cells #[.map mb] 82) :=
  AnyZ.keys_in Tryd.keys64 Fence.wide 5 trivial rfl mb W
def Tryd.laysG72_ren:Go.Shelf.Ren:=⟨fun | 4=>72 | n=>n,fun | 22=>22 | 25=>43 | 3=>3 | 4=>4 | 9=>9 | 20=>20 | 0=>0 | n=>n,fun | n=>n⟩
theorem Tryd.laysG72:Go.Proofs.Lays8.n4 Tryd.prog Tryd.laysG72_ren:={
  mixed:=by kernel_rfl
  f4:=⟨Tryd.f72.name,by decide,Tryd.func72.trans (congrArg some (by kernel_rfl))⟩
  t0:=Tryd.underlying0
  a0:=Tryd.isAgg0
  z0:=Tryd.sizeOf0
  v0:=Tryd.zeroValue0
  t3:=Tryd.underlying3
  a3:=Tryd.isAgg3
  z3:=Tryd.sizeOf3
  v3:=Tryd.zeroValue3
  t4:=Tryd.underlying4
  a4:=Tryd.isAgg4
  z4:=Tryd.sizeOf4
  v4:=Tryd.zeroValue4
  t9:=Tryd.underlying9
  a9:=Tryd.isAgg9
  z9:=Tryd.sizeOf9
  v9:=Tryd.zeroValue9
  t20:=Tryd.underlying20
  a20:=Tryd.isAgg20
  z20:=Tryd.sizeOf20
  v20:=Tryd.zeroValue20
  t22:=Tryd.underlying22
  a22:=Tryd.isAgg22
  z22:=Tryd.sizeOf22
  v22:=Tryd.zeroValue22 }
end Go.Proofs
namespace Go.Proofs.YtibgdilkodjojaaDoor.M.Sh
open Go.RowKit Go.Proofs.YtibgdilkodjojaaDoor.RX
theorem keys64 {ag:Bool} {α:Type} {d:α} {enc:α → List D} {l:List (MK × α)}:CallsB Tryd.prog 64 [.mp LIM] [(LIM,82,[.mapc none ag d enc l])] (.fn 104 [.own 1 0]) [(LIM,82,[.mapc none ag d enc l]),(1,82,[.mp LIM])]:=callsB_keys ⟨Tryd.f64,by kernel_rfl,by kernel_rfl,by kernel_rfl⟩ Tryd.maps_Keys_64
theorem sortedKeys63_104 {ag:Bool} {α:Type} {d:α} {enc:α → List D} {l:List (MK × α)} (h:keysOkS l = true):CallsB Tryd.prog 63 [.fn 104 [.own (LIM + 1) 0]] [(LIM,82,[.mapc none ag d enc l]),(LIM + 1,82,[.mp LIM])] (.recs (α:=List UInt8) [] RX.encS (keysS l)) [(LIM,82,[.mapc none ag d enc l]),(LIM + 1,82,[.mp LIM])]:=callsB_sortedKeys ⟨Tryd.f63,by kernel_rfl,by kernel_rfl,by kernel_rfl⟩ (by kernel_rfl) (fun bb b nn D0 W h1 h2 h3 h4 h5=>Tryd.sorted_keys_63_104 bb b nn D0 anyR W h1 h2 h3 h4 h5) h
theorem cut36 {a b:List UInt8} (h:decide (List.length a < 4294967281) = true):CallsX Tryd.prog 36 [.str a,.str b] (.tup [.str (Lib.cut a b).1,.str (Lib.cut a b).2.1,.val (.bool (Lib.cut a b).2.2)]):=lib_cut (g:=0) ⟨Tryd.f36,by kernel_rfl,by kernel_rfl,by kernel_rfl⟩ (low_gt (by kernel_rfl)) Tryd.laysM145.s1_3 Tryd.strings_Cut h
theorem hasPrefix49 {a b:List UInt8}:CallsX Tryd.prog 49 [.str a,.str b] (.val (.bool (Lib.hasPrefix a b))):=lib_hasPrefix ⟨Tryd.f49,by kernel_rfl,by kernel_rfl,by kernel_rfl⟩ Tryd.strings_HasPrefix
theorem trim159 {a:List UInt8} {x:UInt8} (hx:x.toNat < 128) (h:decide (List.length a < 4294967281) = true):CallsX Tryd.prog 59 [.str a,.str [x]] (.str (Lib.trimB a x)):=lib_trim1 ⟨Tryd.f59,by kernel_rfl,by kernel_rfl,by kernel_rfl⟩ Tryd.strings_Trim_one hx h
theorem cutPrefix60 {a b:List UInt8}:CallsX Tryd.prog 60 [.str a,.str b] (.tup [.str (Lib.trimPrefix a b),.val (.bool (Lib.hasPrefix a b))]):=lib_cutPrefix ⟨Tryd.f60,by kernel_rfl,by kernel_rfl,by kernel_rfl⟩ Tryd.strings_CutPrefix
theorem trimLeft161 {a:List UInt8} {x:UInt8} (hx:x.toNat < 128):CallsX Tryd.prog 61 [.str a,.str [x]] (.str (Lib.trimLeftB a x)):=lib_trimLeft1 ⟨Tryd.f61,by kernel_rfl,by kernel_rfl,by kernel_rfl⟩ Tryd.strings_TrimLeft_one hx
theorem index90 {a b:List UInt8} (h:decide (List.length a < 4294967281) = true):CallsX Tryd.prog 90 [.str a,.str b] (.val (.int .i64 (Lib.index a b))):=lib_index (g:=0) ⟨Tryd.f90,by kernel_rfl,by kernel_rfl,by kernel_rfl⟩ (low_gt (by kernel_rfl)) Tryd.laysM143.s1_3 Tryd.strings_Index h
theorem trimRight1102 {a:List UInt8} {x:UInt8} (hx:x.toNat < 128) (h:decide (List.length a < 4294967281) = true):CallsX Tryd.prog 102 [.str a,.str [x]] (.str (Lib.trimRightB a x)):=lib_trimRight1 ⟨Tryd.f102,by kernel_rfl,by kernel_rfl,by kernel_rfl⟩ Tryd.strings_TrimRight_one hx h
end Go.Proofs.YtibgdilkodjojaaDoor.M.Sh
