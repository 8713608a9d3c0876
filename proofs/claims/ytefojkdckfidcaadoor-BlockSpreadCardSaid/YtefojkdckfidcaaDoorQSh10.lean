import Derived.Test.YtefojkdckfidcaaDoorQRxShelf
import Derived.Test.YtefojkdckfidcaaDoorQRxLib
import Derived.Lib.RowBridge
import Derived.Shelf.Strings.Trim
import Derived.Shelf.Small.Utf8
import Derived.Shelf.Small.Bits
import Derived.Shelf.Small.Strs
import Derived.Shelf.Strconv.Itoa0
import Derived.Shelf.Strings.Search1
import Derived.Shelf.Strings.Search2
import Derived.Shelf.Strings.Cut
import Derived.Shelf.LaysM
import Derived.Shelf.Strings.Shaped
import Derived.Shelf.Sort.Plain
import Derived.Shelf.Strings.Prefix
import Derived.Shelf.Unicode.Decode
import Derived.Shelf.Strings.Runes
import Derived.Shelf.Strings.AsciiSet
import Derived.Shelf.Unicode.DecodeSlow
import Derived.Shelf.Unicode.DecodeAny
import Derived.Shelf.Slices.Turned
import Derived.Shelf.Slices.CompactS
import Derived.Shelf.Slices.Cells
import Derived.Shelf.Slices.In.SortNone
import Derived.Test.YtefojkdckfidcaaDoorProg
set_option linter.all false
namespace Go.Proofs
open Go.Shelf
def Tryd.lays190_ren : Go.Shelf.Ren := ⟨fun | 190 => 54 | 125 => 69 | 258 => 68 | 128 => 84 | 129 => 85 | 302 => 75 | 303 => 76 | 304 => 77 | 305 => 78 | 306 => 79 | 307 => 80 | 308 => 81 | 309 => 82 | 310 => 83 | 333 => 89 | 329 => 90 | 330 => 91 | 334 => 92 | 335 => 93 | 336 => 94 | 344 => 96 | n => n, fun | 31 => 25 | 9 => 9 | 3 => 3 | 46 => 97 | 0 => 0 | 51 => 106 | 53 => 125 | 4 => 4 | 183 => 117 | 182 => 116 | 131 => 121 | 5 => 5 | 218 => 126 | 222 => 130 | 228 => 132 | 229 => 133 | n => n, fun | n => n⟩
theorem Tryd.lays190 : Go.Proofs.Lays.n190 Tryd.prog Tryd.lays190_ren := {
 mixed := by kernel_rfl
 f125 := Tryd.func69.trans (congrArg some (by kernel_rfl))
 f128 := Tryd.func84.trans (congrArg some (by kernel_rfl))
 f129 := Tryd.func85.trans (congrArg some (by kernel_rfl))
 f190 := Tryd.func54.trans (congrArg some (by kernel_rfl))
 f258 := Tryd.func68.trans (congrArg some (by kernel_rfl))
 f302 := Tryd.func75.trans (congrArg some (by kernel_rfl))
 f303 := Tryd.func76.trans (congrArg some (by kernel_rfl))
 f304 := Tryd.func77.trans (congrArg some (by kernel_rfl))
 f305 := Tryd.func78.trans (congrArg some (by kernel_rfl))
 f306 := Tryd.func79.trans (congrArg some (by kernel_rfl))
 f307 := Tryd.func80.trans (congrArg some (by kernel_rfl))
 f308 := Tryd.func81.trans (congrArg some (by kernel_rfl))
 f309 := Tryd.func82.trans (congrArg some (by kernel_rfl))
 f310 := Tryd.func83.trans (congrArg some (by kernel_rfl))
 f329 := Tryd.func90.trans (congrArg some (by kernel_rfl))
 f330 := Tryd.func91.trans (congrArg some (by kernel_rfl))
 f333 := Tryd.func89.trans (congrArg some (by kernel_rfl))
 f334 := Tryd.func92.trans (congrArg some (by kernel_rfl))
 f335 := Tryd.func93.trans (congrArg some (by kernel_rfl))
 f336 := Tryd.func94.trans (congrArg some (by kernel_rfl))
 f344 := Tryd.func96.trans (congrArg some (by kernel_rfl))
 t0 := Tryd.underlying0
 a0 := Tryd.isAgg0
 z0 := Tryd.sizeOf0
 v0 := Tryd.zeroValue0
 t3 := Tryd.underlying3
 a3 := Tryd.isAgg3
 z3 := Tryd.sizeOf3
 v3 := Tryd.zeroValue3
 t4 := Tryd.underlying4
 a4 := Tryd.isAgg4
 z4 := Tryd.sizeOf4
 v4 := Tryd.zeroValue4
 t5 := Tryd.underlying5
 a5 := Tryd.isAgg5
 z5 := Tryd.sizeOf5
 v5 := Tryd.zeroValue5
 t9 := Tryd.underlying9
 a9 := Tryd.isAgg9
 z9 := Tryd.sizeOf9
 v9 := Tryd.zeroValue9
 t31 := Tryd.underlying25
 a31 := Tryd.isAgg25
 z31 := Tryd.sizeOf25
 v31 := Tryd.zeroValue25
 t46 := Tryd.underlying97
 a46 := Tryd.isAgg97
 z46 := Tryd.sizeOf97
 v46 := Tryd.zeroValue97
 t51 := Tryd.underlying106
 a51 := Tryd.isAgg106
 z51 := Tryd.sizeOf106
 v51 := Tryd.zeroValue106
 t53 := Tryd.underlying125
 a53 := Tryd.isAgg125
 z53 := Tryd.sizeOf125
 v53 := Tryd.zeroValue125
 t131 := Tryd.underlying121
 a131 := Tryd.isAgg121
 z131 := Tryd.sizeOf121
 v131 := Tryd.zeroValue121
 t182 := Tryd.underlying116
 a182 := Tryd.isAgg116
 z182 := Tryd.sizeOf116
 v182 := Tryd.zeroValue116
 t183 := Tryd.underlying117
 a183 := Tryd.isAgg117
 z183 := Tryd.sizeOf117
 v183 := Tryd.zeroValue117
 t218 := Tryd.underlying126
 a218 := Tryd.isAgg126
 z218 := Tryd.sizeOf126
 v218 := Tryd.zeroValue126
 t222 := Tryd.underlying130
 a222 := Tryd.isAgg130
 z222 := Tryd.sizeOf130
 v222 := Tryd.zeroValue130
 t228 := Tryd.underlying132
 a228 := Tryd.isAgg132
 z228 := Tryd.sizeOf132
 v228 := Tryd.zeroValue132
 t229 := Tryd.underlying133
 a229 := Tryd.isAgg133
 z229 := Tryd.sizeOf133
 v229 := Tryd.zeroValue133 }
open Go.Sort Go.RowKit in
theorem Tryd.slices_Sort_string (blk off cap : Nat) (ss : List (List UInt8)) (w : World) (hH : Holds encStr w blk off ss.toArray) (hblk : blk < w.heap.size) (hsz : ss.length < 4611686018427387904) :
  Calls Tryd.prog 54 #[.slice (some ⟨blk, off, none⟩) ss.length cap] w fun e w' =>
   e = .returned (.tuple #[]) ∧ ∃ n os, w' = grow (putRow encStr (Sort.ahead w n) blk off (ss.mergeSort fun x y => decide (x ≤ y)).toArray) os := Any.slices_Sort_string Tryd.lays190 blk off cap ss w hH hblk hsz
open Go.RowKit Go.Sort in
theorem Tryd.slices_Sort_string_none (p : Option Addr) (cap : Nat) (w : World) :
  Calls Tryd.prog 54 #[.slice p 0 cap] w fun e w' => e = .returned (.tuple #[]) ∧ w' = w := Any.slices_Sort_string_none Tryd.lays190 p cap w
def Tryd.lays194_ren : Go.Shelf.Ren := ⟨fun | 194 => 55 | n => n, fun | 31 => 25 | 9 => 9 | 3 => 3 | 4 => 4 | 0 => 0 | n => n, fun | n => n⟩
theorem Tryd.lays194 : Go.Proofs.Lays.n194 Tryd.prog Tryd.lays194_ren := {
 mixed := by kernel_rfl
 f194 := Tryd.func55.trans (congrArg some (by kernel_rfl))
 t0 := Tryd.underlying0
 a0 := Tryd.isAgg0
 z0 := Tryd.sizeOf0
 v0 := Tryd.zeroValue0
 t3 := Tryd.underlying3
 a3 := Tryd.isAgg3
 z3 := Tryd.sizeOf3
 v3 := Tryd.zeroValue3
 t4 := Tryd.underlying4
 a4 := Tryd.isAgg4
 z4 := Tryd.sizeOf4
 v4 := Tryd.zeroValue4
 t9 := Tryd.underlying9
 a9 := Tryd.isAgg9
 z9 := Tryd.sizeOf9
 v9 := Tryd.zeroValue9
 t31 := Tryd.underlying25
 a31 := Tryd.isAgg25
 z31 := Tryd.sizeOf25
 v31 := Tryd.zeroValue25 }
open Go.RowKit Go.Lib Go.Sort in
theorem Tryd.slices_Compact_string (blk off cap : Nat) (zs : List (List UInt8)) (w : World) (hH : Holds encStr w blk off zs.toArray) (hsz : zs.length ≤ 9223372036854775807) (hcap : zs.length ≤ cap) :
  Calls Tryd.prog 55 #[.slice (some ⟨blk, off, none⟩) zs.length cap] w fun e w' => e = .returned (.slice (some ⟨blk, off, none⟩) (Lib.compact zs).length cap) ∧ ∃ q, w' = putRow encStr (Sort.ahead w q) blk off (Lib.compact zs ++ List.replicate (zs.length - (Lib.compact zs).length) []).toArray := Any.slices_Compact_string Tryd.lays194 blk off cap zs w hH hsz hcap
open Go.RowKit Go.Lib Go.Sort in
theorem Tryd.slices_Compact_string_empty (a : Option Addr) (cap : Nat) (w : World) :
  Calls Tryd.prog 55 #[.slice a 0 cap] w fun e w' => e = .returned (.slice a 0 cap) ∧ w' = w := Any.slices_Compact_string_empty Tryd.lays194 a cap w
def Tryd.lays145_ren : Go.Shelf.Ren := ⟨fun | 145 => 14 | 220 => 23 | 219 => 39 | 217 => 43 | 225 => 56 | 224 => 57 | 267 => 58 | 266 => 61 | 314 => 70 | n => n, fun | 9 => 9 | 4 => 4 | 59 => 47 | 3 => 3 | 5 => 5 | 46 => 97 | 146 => 107 | 51 => 106 | n => n, fun | 1 => 0 | n => n⟩
theorem Tryd.lays145 : Go.Proofs.Lays.n145 Tryd.prog Tryd.lays145_ren := {
 mixed := by kernel_rfl
 f145 := Tryd.func14.trans (congrArg some (by kernel_rfl))
 f217 := Tryd.func43.trans (congrArg some (by kernel_rfl))
 f219 := Tryd.func39.trans (congrArg some (by kernel_rfl))
 f220 := Tryd.func23.trans (congrArg some (by kernel_rfl))
 f224 := Tryd.func57.trans (congrArg some (by kernel_rfl))
 f225 := Tryd.func56.trans (congrArg some (by kernel_rfl))
 f266 := Tryd.func61.trans (congrArg some (by kernel_rfl))
 f267 := Tryd.func58.trans (congrArg some (by kernel_rfl))
 f314 := Tryd.func70.trans (congrArg some (by kernel_rfl))
 t3 := Tryd.underlying3
 a3 := Tryd.isAgg3
 z3 := Tryd.sizeOf3
 v3 := Tryd.zeroValue3
 t4 := Tryd.underlying4
 a4 := Tryd.isAgg4
 z4 := Tryd.sizeOf4
 v4 := Tryd.zeroValue4
 t5 := Tryd.underlying5
 a5 := Tryd.isAgg5
 z5 := Tryd.sizeOf5
 v5 := Tryd.zeroValue5
 t9 := Tryd.underlying9
 a9 := Tryd.isAgg9
 z9 := Tryd.sizeOf9
 v9 := Tryd.zeroValue9
 t46 := Tryd.underlying97
 a46 := Tryd.isAgg97
 z46 := Tryd.sizeOf97
 v46 := Tryd.zeroValue97
 t51 := Tryd.underlying106
 a51 := Tryd.isAgg106
 z51 := Tryd.sizeOf106
 v51 := Tryd.zeroValue106
 t59 := Tryd.underlying47
 a59 := Tryd.isAgg47
 z59 := Tryd.sizeOf47
 v59 := Tryd.zeroValue47
 t146 := Tryd.underlying107
 a146 := Tryd.isAgg107
 z146 := Tryd.sizeOf107
 v146 := Tryd.zeroValue107
 g1 := by kernel_rfl }
open Go.RowKit Go.Lib in
theorem Tryd.strings_Cut (s sep : ByteArray) (m : Int) (w : World) (hs : s.size < 4294967281) (hm : w.cell? ⟨0, 0, none⟩ = some (.int .i64 m)) :
  Calls Tryd.prog 14 #[.string s, .string sep] w fun e w' => e = .returned (.tuple #[.string ⟨(Lib.cut s.data.toList sep.data.toList).1.toArray⟩, .string ⟨(Lib.cut s.data.toList sep.data.toList).2.1.toArray⟩, .bool (Lib.cut s.data.toList sep.data.toList).2.2]) ∧ ∃ n, w' = w.drewN n := Any.strings_Cut Tryd.lays145 s sep m w hs hm
def Tryd.laysM145_ren : Go.Shelf.Ren := ⟨fun | 145 => 14 | 220 => 23 | 219 => 39 | 217 => 43 | 225 => 56 | 224 => 57 | 267 => 58 | 266 => 61 | 314 => 70 | n => n, fun | 9 => 9 | 4 => 4 | 59 => 47 | 3 => 3 | 5 => 5 | 46 => 97 | 146 => 107 | 51 => 106 | n => n, fun | 1 => 0 | n => n⟩
theorem Tryd.laysM145 : Go.Proofs.LaysM.n145 Tryd.prog Tryd.laysM145_ren := {
 mixed := by kernel_rfl
 f145 := Tryd.func14.trans (congrArg some (by kernel_rfl))
 f217 := Tryd.func43.trans (congrArg some (by kernel_rfl))
 f219 := Tryd.func39.trans (congrArg some (by kernel_rfl))
 f220 := Tryd.func23.trans (congrArg some (by kernel_rfl))
 f224 := Tryd.func57.trans (congrArg some (by kernel_rfl))
 f225 := Tryd.func56.trans (congrArg some (by kernel_rfl))
 f266 := Tryd.func61.trans (congrArg some (by kernel_rfl))
 f267 := Tryd.func58.trans (congrArg some (by kernel_rfl))
 f314 := Tryd.func70.trans (congrArg some (by kernel_rfl))
 t3 := Tryd.underlying3
 a3 := Tryd.isAgg3
 z3 := Tryd.sizeOf3
 v3 := Tryd.zeroValue3
 t4 := Tryd.underlying4
 a4 := Tryd.isAgg4
 z4 := Tryd.sizeOf4
 v4 := Tryd.zeroValue4
 t5 := Tryd.underlying5
 a5 := Tryd.isAgg5
 z5 := Tryd.sizeOf5
 v5 := Tryd.zeroValue5
 t9 := Tryd.underlying9
 a9 := Tryd.isAgg9
 z9 := Tryd.sizeOf9
 v9 := Tryd.zeroValue9
 t46 := Tryd.underlying97
 a46 := Tryd.isAgg97
 z46 := Tryd.sizeOf97
 v46 := Tryd.zeroValue97
 t51 := Tryd.underlying106
 a51 := Tryd.isAgg106
 z51 := Tryd.sizeOf106
 v51 := Tryd.zeroValue106
 t59 := Tryd.underlying47
 a59 := Tryd.isAgg47
 z59 := Tryd.sizeOf47
 v59 := Tryd.zeroValue47
 t146 := Tryd.underlying107
 a146 := Tryd.isAgg107
 z146 := Tryd.sizeOf107
 v146 := Tryd.zeroValue107
 g1 := by kernel_rfl
 i3 := by kernel_rfl
 i4 := by kernel_rfl
 i5 := by kernel_rfl
 i9 := by kernel_rfl
 i46 := by kernel_rfl
 i51 := by kernel_rfl
 i59 := by kernel_rfl
 i146 := by kernel_rfl
 m1 := by kernel_rfl
 s1_3 := fun w h => Go.Proofs.cell_of_shapedOpen_int (zero := #[.int .i64 0]) (t := 3) h (of_decide_eq_true (by kernel_rfl)) (by kernel_rfl) rfl (by kernel_rfl) (by kernel_rfl) Tryd.underlying3 }
def Tryd.lays161_ren : Go.Shelf.Ren := ⟨fun | 161 => 15 | 231 => 24 | 227 => 25 | 233 => 26 | 235 => 27 | 228 => 40 | 197 => 41 | 151 => 42 | 260 => 59 | 152 => 60 | 137 => 28 | 119 => 71 | 224 => 57 | 225 => 56 | 217 => 43 | 266 => 61 | n => n, fun | 9 => 9 | 4 => 4 | 3 => 3 | 5 => 5 | 117 => 62 | 116 => 61 | 0 => 0 | 124 => 65 | 105 => 81 | 21 => 21 | 119 => 109 | 46 => 97 | 139 => 112 | 138 => 111 | n => n, fun | 3 => 1 | 4 => 2 | n => n⟩
theorem Tryd.lays161 : Go.Proofs.Lays.n161 Tryd.prog Tryd.lays161_ren := {
 mixed := by kernel_rfl
 f119 := Tryd.func71.trans (congrArg some (by kernel_rfl))
 f137 := Tryd.func28.trans (congrArg some (by kernel_rfl))
 f151 := Tryd.func42.trans (congrArg some (by kernel_rfl))
 f152 := Tryd.func60.trans (congrArg some (by kernel_rfl))
 f161 := Tryd.func15.trans (congrArg some (by kernel_rfl))
 f197 := Tryd.func41.trans (congrArg some (by kernel_rfl))
 f217 := Tryd.func43.trans (congrArg some (by kernel_rfl))
 f224 := Tryd.func57.trans (congrArg some (by kernel_rfl))
 f225 := Tryd.func56.trans (congrArg some (by kernel_rfl))
 f227 := Tryd.func25.trans (congrArg some (by kernel_rfl))
 f228 := Tryd.func40.trans (congrArg some (by kernel_rfl))
 f231 := Tryd.func24.trans (congrArg some (by kernel_rfl))
 f233 := Tryd.func26.trans (congrArg some (by kernel_rfl))
 f235 := Tryd.func27.trans (congrArg some (by kernel_rfl))
 f260 := Tryd.func59.trans (congrArg some (by kernel_rfl))
 f266 := Tryd.func61.trans (congrArg some (by kernel_rfl))
 t0 := Tryd.underlying0
 a0 := Tryd.isAgg0
 z0 := Tryd.sizeOf0
 v0 := Tryd.zeroValue0
 t3 := Tryd.underlying3
 a3 := Tryd.isAgg3
 z3 := Tryd.sizeOf3
 v3 := Tryd.zeroValue3
 t4 := Tryd.underlying4
 a4 := Tryd.isAgg4
 z4 := Tryd.sizeOf4
 v4 := Tryd.zeroValue4
 t5 := Tryd.underlying5
 a5 := Tryd.isAgg5
 z5 := Tryd.sizeOf5
 v5 := Tryd.zeroValue5
 t9 := Tryd.underlying9
 a9 := Tryd.isAgg9
 z9 := Tryd.sizeOf9
 v9 := Tryd.zeroValue9
 t21 := Tryd.underlying21
 a21 := Tryd.isAgg21
 z21 := Tryd.sizeOf21
 v21 := Tryd.zeroValue21
 t46 := Tryd.underlying97
 a46 := Tryd.isAgg97
 z46 := Tryd.sizeOf97
 v46 := Tryd.zeroValue97
 t105 := Tryd.underlying81
 a105 := Tryd.isAgg81
 z105 := Tryd.sizeOf81
 v105 := Tryd.zeroValue81
 t116 := Tryd.underlying61
 a116 := Tryd.isAgg61
 z116 := Tryd.sizeOf61
 t117 := Tryd.underlying62
 a117 := Tryd.isAgg62
 z117 := Tryd.sizeOf62
 v117 := Tryd.zeroValue62
 t119 := Tryd.underlying109
 a119 := Tryd.isAgg109
 z119 := Tryd.sizeOf109
 t124 := Tryd.underlying65
 a124 := Tryd.isAgg65
 z124 := Tryd.sizeOf65
 v124 := Tryd.zeroValue65
 t138 := Tryd.underlying111
 a138 := Tryd.isAgg111
 z138 := Tryd.sizeOf111
 v138 := Tryd.zeroValue111
 t139 := Tryd.underlying112
 a139 := Tryd.isAgg112
 z139 := Tryd.sizeOf112
 v139 := Tryd.zeroValue112
 g3 := by kernel_rfl
 g4 := by kernel_rfl }
open Go.RowKit in
theorem Tryd.strings_TrimLeft_one (s : ByteArray) (c : UInt8) (hc : c.toNat < 128) (w : World) :
  Calls Tryd.prog 15 #[.string s, .string ⟨#[c]⟩] w fun e w' => e = .returned (.string ⟨(Lib.trimLeftB s.data.toList c).toArray⟩) ∧ w' = w := Any.strings_TrimLeft_one Tryd.lays161 s c hc w
def Tryd.lays137_ren : Go.Shelf.Ren := ⟨fun | 137 => 28 | 217 => 43 | 266 => 61 | n => n, fun | 9 => 9 | 5 => 5 | 3 => 3 | n => n, fun | n => n⟩
theorem Tryd.lays137 : Go.Proofs.Lays.n137 Tryd.prog Tryd.lays137_ren := {
 mixed := by kernel_rfl
 f137 := Tryd.func28.trans (congrArg some (by kernel_rfl))
 f217 := Tryd.func43.trans (congrArg some (by kernel_rfl))
 f266 := Tryd.func61.trans (congrArg some (by kernel_rfl))
 t3 := Tryd.underlying3
 a3 := Tryd.isAgg3
 z3 := Tryd.sizeOf3
 v3 := Tryd.zeroValue3
 t5 := Tryd.underlying5
 a5 := Tryd.isAgg5
 z5 := Tryd.sizeOf5
 v5 := Tryd.zeroValue5
 t9 := Tryd.underlying9
 a9 := Tryd.isAgg9
 z9 := Tryd.sizeOf9
 v9 := Tryd.zeroValue9 }
open Go.RowKit in
theorem Tryd.strings_IndexByte (s : ByteArray) (c : Int) (w : World) :
  Calls Tryd.prog 28 #[.string s, .int .u8 c] w fun e w' => e = .returned (.int .i64 (Lib.indexByte s.data.toList c.toNat.toUInt8)) ∧ w' = w := Any.strings_IndexByte Tryd.lays137 s c w
def Tryd.lays99_ren : Go.Shelf.Ren := ⟨fun | 99 => 32 | 206 => 47 | n => n, fun | 9 => 9 | 4 => 4 | 3 => 3 | n => n, fun | n => n⟩
theorem Tryd.lays99 : Go.Proofs.Lays.n99 Tryd.prog Tryd.lays99_ren := {
 mixed := by kernel_rfl
 f99 := Tryd.func32.trans (congrArg some (by kernel_rfl))
 f206 := Tryd.func47.trans (congrArg some (by kernel_rfl))
 t3 := Tryd.underlying3
 a3 := Tryd.isAgg3
 z3 := Tryd.sizeOf3
 v3 := Tryd.zeroValue3
 t4 := Tryd.underlying4
 a4 := Tryd.isAgg4
 z4 := Tryd.sizeOf4
 v4 := Tryd.zeroValue4
 t9 := Tryd.underlying9
 a9 := Tryd.isAgg9
 z9 := Tryd.sizeOf9
 v9 := Tryd.zeroValue9 }
open Go.RowKit Go.Lib in
theorem Tryd.strings_HasPrefix (s p : ByteArray) (w : World) :
  Calls Tryd.prog 32 #[.string s, .string p] w fun e w' => e = .returned (.bool (Lib.hasPrefix s.data.toList p.data.toList)) ∧ w' = w := Any.strings_HasPrefix Tryd.lays99 s p w
def Tryd.lays162_ren : Go.Shelf.Ren := ⟨fun | 162 => 74 | 232 => 86 | 227 => 25 | 234 => 87 | 236 => 88 | 228 => 40 | 271 => 95 | 151 => 42 | 120 => 97 | 197 => 41 | 152 => 60 | 260 => 59 | 137 => 28 | 119 => 71 | 224 => 57 | 225 => 56 | 217 => 43 | 266 => 61 | n => n, fun | 9 => 9 | 4 => 4 | 3 => 3 | 5 => 5 | 117 => 62 | 116 => 61 | 0 => 0 | 124 => 65 | 21 => 21 | 105 => 81 | 46 => 97 | 119 => 109 | 139 => 112 | 138 => 111 | n => n, fun | 3 => 1 | 4 => 2 | n => n⟩
theorem Tryd.lays162 : Go.Proofs.Lays.n162 Tryd.prog Tryd.lays162_ren := {
 mixed := by kernel_rfl
 f119 := Tryd.func71.trans (congrArg some (by kernel_rfl))
 f120 := Tryd.func97.trans (congrArg some (by kernel_rfl))
 f137 := Tryd.func28.trans (congrArg some (by kernel_rfl))
 f151 := Tryd.func42.trans (congrArg some (by kernel_rfl))
 f152 := Tryd.func60.trans (congrArg some (by kernel_rfl))
 f162 := Tryd.func74.trans (congrArg some (by kernel_rfl))
 f197 := Tryd.func41.trans (congrArg some (by kernel_rfl))
 f217 := Tryd.func43.trans (congrArg some (by kernel_rfl))
 f224 := Tryd.func57.trans (congrArg some (by kernel_rfl))
 f225 := Tryd.func56.trans (congrArg some (by kernel_rfl))
 f227 := Tryd.func25.trans (congrArg some (by kernel_rfl))
 f228 := Tryd.func40.trans (congrArg some (by kernel_rfl))
 f232 := Tryd.func86.trans (congrArg some (by kernel_rfl))
 f234 := Tryd.func87.trans (congrArg some (by kernel_rfl))
 f236 := Tryd.func88.trans (congrArg some (by kernel_rfl))
 f260 := Tryd.func59.trans (congrArg some (by kernel_rfl))
 f266 := Tryd.func61.trans (congrArg some (by kernel_rfl))
 f271 := Tryd.func95.trans (congrArg some (by kernel_rfl))
 t0 := Tryd.underlying0
 a0 := Tryd.isAgg0
 z0 := Tryd.sizeOf0
 v0 := Tryd.zeroValue0
 t3 := Tryd.underlying3
 a3 := Tryd.isAgg3
 z3 := Tryd.sizeOf3
 v3 := Tryd.zeroValue3
 t4 := Tryd.underlying4
 a4 := Tryd.isAgg4
 z4 := Tryd.sizeOf4
 v4 := Tryd.zeroValue4
 t5 := Tryd.underlying5
 a5 := Tryd.isAgg5
 z5 := Tryd.sizeOf5
 v5 := Tryd.zeroValue5
 t9 := Tryd.underlying9
 a9 := Tryd.isAgg9
 z9 := Tryd.sizeOf9
 v9 := Tryd.zeroValue9
 t21 := Tryd.underlying21
 a21 := Tryd.isAgg21
 z21 := Tryd.sizeOf21
 v21 := Tryd.zeroValue21
 t46 := Tryd.underlying97
 a46 := Tryd.isAgg97
 z46 := Tryd.sizeOf97
 v46 := Tryd.zeroValue97
 t105 := Tryd.underlying81
 a105 := Tryd.isAgg81
 z105 := Tryd.sizeOf81
 v105 := Tryd.zeroValue81
 t116 := Tryd.underlying61
 a116 := Tryd.isAgg61
 z116 := Tryd.sizeOf61
 t117 := Tryd.underlying62
 a117 := Tryd.isAgg62
 z117 := Tryd.sizeOf62
 v117 := Tryd.zeroValue62
 t119 := Tryd.underlying109
 a119 := Tryd.isAgg109
 z119 := Tryd.sizeOf109
 t124 := Tryd.underlying65
 a124 := Tryd.isAgg65
 z124 := Tryd.sizeOf65
 v124 := Tryd.zeroValue65
 t138 := Tryd.underlying111
 a138 := Tryd.isAgg111
 z138 := Tryd.sizeOf111
 v138 := Tryd.zeroValue111
 t139 := Tryd.underlying112
 a139 := Tryd.isAgg112
 z139 := Tryd.sizeOf112
 v139 := Tryd.zeroValue112
 g3 := by kernel_rfl
 g4 := by kernel_rfl }
open Go.RowKit in
theorem Tryd.strings_TrimRight_one (s : ByteArray) (c : UInt8) (hc : c.toNat < 128) (w : World) (hs : s.size ≤ 9223372036854775807) :
  Calls Tryd.prog 74 #[.string s, .string ⟨#[c]⟩] w fun e w' => e = .returned (.string ⟨(Lib.trimRightB s.data.toList c).toArray⟩) ∧ w' = w := Any.strings_TrimRight_one Tryd.lays162 s c hc w hs
end Go.Proofs
namespace Go.Proofs.YtefojkdckfidcaaDoor.M.Sh
open Go.RowKit Go.Proofs.YtefojkdckfidcaaDoor.RX
abbrev sort := strSort
theorem sort54 {l : List (List UInt8)} (h : decide (List.length l * 17 ≤ limit) = true) : CallsB Tryd.prog 54 [.row 1000000] [(1000000, 9, [.rowc false (α := List UInt8) [] RX.encS l])] (.tup []) [(1000000, 9, [.rowc false (α := List UInt8) [] RX.encS (sort l)])] := callsB_sort ⟨Tryd.f54, by kernel_rfl, by kernel_rfl, by kernel_rfl⟩ Tryd.slices_Sort_string Tryd.slices_Sort_string_none h
theorem compact55 {l : List (List UInt8)} (h : decide (List.length l * 17 ≤ limit) = true) : CallsB Tryd.prog 55 [.row 1000000] [(1000000, 9, [.rowc false (α := List UInt8) [] RX.encS l])] (.recs (α := List UInt8) [] RX.encS (Lib.compact l)) [] := callsB_compact ⟨Tryd.f55, by kernel_rfl, by kernel_rfl, by kernel_rfl⟩ Tryd.slices_Compact_string Tryd.slices_Compact_string_empty (Lib.compact_length_le l) h
theorem cut14 {a b : List UInt8} (h : decide (List.length a < 4294967281) = true) : CallsX Tryd.prog 14 [.str a, .str b] (.tup [.str (Lib.cut a b).1, .str (Lib.cut a b).2.1, .val (.bool (Lib.cut a b).2.2)]) := lib_cut (g := 0) ⟨Tryd.f14, by kernel_rfl, by kernel_rfl, by kernel_rfl⟩ (low_gt (by kernel_rfl)) Tryd.laysM145.s1_3 Tryd.strings_Cut h
theorem trimLeft115 {a : List UInt8} {x : UInt8} (hx : x.toNat < 128) : CallsX Tryd.prog 15 [.str a, .str [x]] (.str (Lib.trimLeftB a x)) := lib_trimLeft1 ⟨Tryd.f15, by kernel_rfl, by kernel_rfl, by kernel_rfl⟩ Tryd.strings_TrimLeft_one hx
theorem indexByte28 {a : List UInt8} {n : Int} : CallsX Tryd.prog 28 [.str a, .val (.int .u8 n)] (.val (.int .i64 (Lib.indexByte a (Int.toNat n).toUInt8))) := lib_indexByte ⟨Tryd.f28, by kernel_rfl, by kernel_rfl, by kernel_rfl⟩ Tryd.strings_IndexByte
theorem hasPrefix32 {a b : List UInt8} : CallsX Tryd.prog 32 [.str a, .str b] (.val (.bool (Lib.hasPrefix a b))) := lib_hasPrefix ⟨Tryd.f32, by kernel_rfl, by kernel_rfl, by kernel_rfl⟩ Tryd.strings_HasPrefix
theorem trimRight174 {a : List UInt8} {x : UInt8} (hx : x.toNat < 128) (h : decide (List.length a < 4294967281) = true) : CallsX Tryd.prog 74 [.str a, .str [x]] (.str (Lib.trimRightB a x)) := lib_trimRight1 ⟨Tryd.f74, by kernel_rfl, by kernel_rfl, by kernel_rfl⟩ Tryd.strings_TrimRight_one hx h
end Go.Proofs.YtefojkdckfidcaaDoor.M.Sh
