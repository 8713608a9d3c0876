/-
  Part of the proof of StoreHolds: Sh33.
-/
import Derived.Test.YtaecmkldkljioaaQRxShelf
import Derived.Test.YtaecmkldkljioaaQRxLib
import Derived.Lib.RowBridge
import Derived.Test.YtaecmkldkljioaaQRxKeysI
import Derived.Shelf.Small.Bits
import Derived.Shelf.Small.Wraps
import Derived.Shelf.Strconv.Itoa0
import Derived.Shelf.Sort.Plain
import Derived.Shelf.Slices.Turned
import Derived.Ground.Names2Prog
import Derived.Shelf.Slices.Clone
import Derived.Shelf.Slices.SearchI
import Derived.Shelf.Slices.In.SortNone
import Derived.Ground.SlgnProg
import Derived.Shelf.SlicesE.Clone
import Derived.Shelf.SlGeneric
import Derived.Shelf.SlIter.Nil
import Derived.Shelf.SortM.Plain
import Derived.Shelf.SortM.SortNone
import Derived.Ground.GgzProg
import Derived.Ground.SlgmProg
import Derived.Shelf.SlIterI.Sorted
import Derived.Test.YtaecmkldkljioaaProg
set_option linter.all false
namespace Go.Proofs
open Go.Shelf
def Try.keys82_ren : Go.Shelf.Ren := ⟨fun | 7 => 82 | 10 => 97 | n => n, fun | 23 => 98 | 26 => 9 | 3 => 78 | 28 => 126 | 0 => 0 | 27 => 125 | 33 => 135 | 4 => 4 | n => n, fun | n => n⟩
theorem Try.keys82 : Go.Proofs.SlLaysZ.n7 Try.prog Try.keys82_ren := {
  mixed := by kernel_rfl
  f7 := ⟨Try.f82.name, by decide, Try.func82.trans (congrArg some (by kernel_rfl))⟩
  f10 := ⟨Try.f97.name, by decide, Try.func97.trans (congrArg some (by kernel_rfl))⟩
  t0 := Try.underlying0
  a0 := Try.isAgg0
  z0 := Try.sizeOf0
  v0 := Try.zeroValue0
  t4 := Try.underlying4
  a4 := Try.isAgg4
  z4 := Try.sizeOf4
  v4 := Try.zeroValue4
  t23 := Try.underlying98
  a23 := Try.isAgg98
  z23 := Try.sizeOf98
  v23 := Try.zeroValue98
  t26 := Try.underlying9
  a26 := Try.isAgg9
  z26 := Try.sizeOf9
  v26 := Try.zeroValue9
  t27 := Try.underlying125
  a27 := Try.isAgg125
  z27 := Try.sizeOf125
  v27 := Try.zeroValue125
  t28 := Try.underlying126
  a28 := Try.isAgg126
  z28 := Try.sizeOf126
  v28 := Try.zeroValue126
  t33 := Try.underlying135
  a33 := Try.isAgg135
  z33 := Try.sizeOf135
  v33 := Try.zeroValue135 }
def Try.sorted81_ren : Go.Shelf.Ren := ⟨fun | 6 => 81 | 8 => 95 | 9 => 96 | 11 => 114 | 13 => 94 | 12 => 115 | 23 => 112 | 24 => 113 | 14 => 124 | 15 => 125 | 16 => 126 | 17 => 127 | 18 => 128 | 19 => 129 | 20 => 130 | 21 => 131 | 22 => 132 | 25 => 136 | 26 => 120 | 27 => 121 | 28 => 137 | 29 => 138 | 30 => 88 | 31 => 139 | n => n, fun | 26 => 9 | 28 => 126 | 24 => 27 | 0 => 0 | 3 => 3 | 37 => 141 | 48 => 157 | 50 => 159 | 4 => 4 | 40 => 149 | 39 => 148 | 45 => 154 | 5 => 5 | 9 => 9 | 51 => 164 | 55 => 168 | 57 => 177 | 58 => 178 | 33 => 135 | n => n, fun | n => n⟩
theorem Try.sorted81 : Go.Proofs.SlLaysZ.n6 Try.prog Try.sorted81_ren := {
  mixed := by kernel_rfl
  f6 := ⟨Try.f81.name, by decide, Try.func81.trans (congrArg some (by kernel_rfl))⟩
  f8 := ⟨Try.f95.name, by decide, Try.func95.trans (congrArg some (by kernel_rfl))⟩
  f11 := ⟨Try.f114.name, by decide, Try.func114.trans (congrArg some (by kernel_rfl))⟩
  t0 := Try.underlying0
  a0 := Try.isAgg0
  z0 := Try.sizeOf0
  v0 := Try.zeroValue0
  t24 := Try.underlying27
  a24 := Try.isAgg27
  z24 := Try.sizeOf27
  v24 := Try.zeroValue27
  t26 := Try.underlying9
  a26 := Try.isAgg9
  z26 := Try.sizeOf9
  v26 := Try.zeroValue9
  t28 := Try.underlying126
  a28 := Try.isAgg126
  z28 := Try.sizeOf126
  v28 := Try.zeroValue126
  i26 := by kernel_rfl }
def Try.sort96_ren : Go.Shelf.Ren := ⟨fun | 6 => 96 | 8 => 94 | 9 => 115 | 19 => 112 | 20 => 113 | 21 => 124 | 22 => 125 | 23 => 126 | 24 => 127 | 25 => 128 | 26 => 129 | 27 => 130 | 28 => 131 | 29 => 132 | 36 => 136 | 31 => 120 | 32 => 121 | 37 => 137 | 38 => 138 | 39 => 88 | 41 => 139 | n => n, fun | 27 => 27 | 29 => 9 | 3 => 3 | 32 => 141 | 26 => 27 | 0 => 0 | 44 => 157 | 46 => 159 | 4 => 4 | 36 => 149 | 35 => 148 | 41 => 154 | 5 => 5 | 9 => 9 | 53 => 164 | 57 => 168 | 63 => 177 | 64 => 178 | n => n, fun | n => n⟩
theorem Try.sort96 : Go.Proofs.SlLaysM.n6 Try.prog Try.sort96_ren := {
  mixed := by kernel_rfl
  f6 := ⟨Try.f96.name, by decide, Try.func96.trans (congrArg some (by kernel_rfl))⟩
  f8 := Try.func94.trans (congrArg some (by kernel_rfl))
  f9 := ⟨Try.f115.name, by decide, Try.func115.trans (congrArg some (by kernel_rfl))⟩
  f19 := Try.func112.trans (congrArg some (by kernel_rfl))
  f20 := Try.func113.trans (congrArg some (by kernel_rfl))
  f21 := ⟨Try.f124.name, by decide, Try.func124.trans (congrArg some (by kernel_rfl))⟩
  f22 := ⟨Try.f125.name, by decide, Try.func125.trans (congrArg some (by kernel_rfl))⟩
  f23 := ⟨Try.f126.name, by decide, Try.func126.trans (congrArg some (by kernel_rfl))⟩
  f24 := ⟨Try.f127.name, by decide, Try.func127.trans (congrArg some (by kernel_rfl))⟩
  f25 := ⟨Try.f128.name, by decide, Try.func128.trans (congrArg some (by kernel_rfl))⟩
  f26 := ⟨Try.f129.name, by decide, Try.func129.trans (congrArg some (by kernel_rfl))⟩
  f27 := ⟨Try.f130.name, by decide, Try.func130.trans (congrArg some (by kernel_rfl))⟩
  f28 := ⟨Try.f131.name, by decide, Try.func131.trans (congrArg some (by kernel_rfl))⟩
  f29 := ⟨Try.f132.name, by decide, Try.func132.trans (congrArg some (by kernel_rfl))⟩
  f31 := Try.func120.trans (congrArg some (by kernel_rfl))
  f32 := Try.func121.trans (congrArg some (by kernel_rfl))
  f36 := ⟨Try.f136.name, by decide, Try.func136.trans (congrArg some (by kernel_rfl))⟩
  f37 := ⟨Try.f137.name, by decide, Try.func137.trans (congrArg some (by kernel_rfl))⟩
  f38 := ⟨Try.f138.name, by decide, Try.func138.trans (congrArg some (by kernel_rfl))⟩
  f39 := ⟨Try.f88.name, by decide, Try.func88.trans (congrArg some (by kernel_rfl))⟩
  f41 := ⟨Try.f139.name, by decide, Try.func139.trans (congrArg some (by kernel_rfl))⟩
  t0 := Try.underlying0
  a0 := Try.isAgg0
  z0 := Try.sizeOf0
  v0 := Try.zeroValue0
  t3 := Try.underlying3
  a3 := Try.isAgg3
  z3 := Try.sizeOf3
  v3 := Try.zeroValue3
  t4 := Try.underlying4
  a4 := Try.isAgg4
  z4 := Try.sizeOf4
  v4 := Try.zeroValue4
  t5 := Try.underlying5
  a5 := Try.isAgg5
  z5 := Try.sizeOf5
  v5 := Try.zeroValue5
  t9 := Try.underlying9
  a9 := Try.isAgg9
  z9 := Try.sizeOf9
  v9 := Try.zeroValue9
  t26 := Try.underlying27
  a26 := Try.isAgg27
  z26 := Try.sizeOf27
  v26 := Try.zeroValue27
  t27 := Try.underlying27
  a27 := Try.isAgg27
  z27 := Try.sizeOf27
  v27 := Try.zeroValue27
  t29 := Try.underlying9
  a29 := Try.isAgg9
  z29 := Try.sizeOf9
  v29 := Try.zeroValue9
  t32 := Try.underlying141
  a32 := Try.isAgg141
  z32 := Try.sizeOf141
  v32 := Try.zeroValue141
  t35 := Try.underlying148
  a35 := Try.isAgg148
  z35 := Try.sizeOf148
  v35 := Try.zeroValue148
  t36 := Try.underlying149
  a36 := Try.isAgg149
  z36 := Try.sizeOf149
  v36 := Try.zeroValue149
  t41 := Try.underlying154
  a41 := Try.isAgg154
  z41 := Try.sizeOf154
  v41 := Try.zeroValue154
  t44 := Try.underlying157
  a44 := Try.isAgg157
  z44 := Try.sizeOf157
  v44 := Try.zeroValue157
  t46 := Try.underlying159
  a46 := Try.isAgg159
  z46 := Try.sizeOf159
  v46 := Try.zeroValue159
  t53 := Try.underlying164
  a53 := Try.isAgg164
  z53 := Try.sizeOf164
  v53 := Try.zeroValue164
  t57 := Try.underlying168
  a57 := Try.isAgg168
  z57 := Try.sizeOf168
  v57 := Try.zeroValue168
  t63 := Try.underlying177
  a63 := Try.isAgg177
  z63 := Try.sizeOf177
  v63 := Try.zeroValue177
  t64 := Try.underlying178
  a64 := Try.isAgg178
  z64 := Try.sizeOf178
  v64 := Try.zeroValue178 }
open Go.RowKit Go.Maps Go.Sort in
theorem Try.sorts81 (m : Nat) : AnyZ.SortsIn Try.prog Try.sorted81_ren Fence.wide m :=
  ⟨fun blk off cap ss W hH hblk hsz => callsIn_wide.2 (AnyM.slices_Sort_string Try.sort96 blk off cap ss W hH hblk hsz),
   fun p cap W => callsIn_wide.2 (AnyM.slices_Sort_string_none Try.sort96 p cap W)⟩
open Go.RowKit Go.Maps Go.Sort in
theorem Try.sorted_keys_81_97 {H : Type} (bb b nn : Nat) (D0 : DataW H) (R : Value → Option (DataW H × List MemPlace)) (W : World) (hbb : bb < W.heap.size) (hcell : W.cell? ⟨bb, 0, none⟩ = some (.map (some b))) (hown : W.ownsMap Try.prog 9 R b nn D0) (hmax : Maps.size D0 ≤ maxLen) (hbytes : Maps.size D0 * 16 ≤ 140737488355328) :
    CallsIn Fence.wide 5 Try.prog 81 #[.func (.func 97) #[] #[.pointer (some ⟨bb, 0, none⟩)]] W fun e w' => ∃ (v : Value) (ss : List (List UInt8)), e = .returned v ∧ ss.Perm (strKeys D0) ∧
      w'.ownsRow W.heap.size 9 1 v ss.length ((ss.mergeSort (fun x y => decide (x ≤ y))).map encStr) ∧ (v = .slice none 0 0 ↔ ss = []) ∧ Below W.heap.size W w' := by
  have hseq : SeqGives Fence.wide 2 Try.prog 97 #[.pointer (some ⟨bb, 0, none⟩)] encStr (fun ss => ss.Perm (strKeys D0)) (Maps.size D0) W :=
    AnyZ.keys_gives (ρ := Try.keys82_ren) { Try.keys82 with } Fence.wide _ trivial rfl (by omega) bb b nn D0 W hbb hcell hown
  exact AnyZ.sorted_in Try.sorted81 Fence.wide 5 trivial trivial trivial trivial rfl (by omega) (Try.sorts81 _) (enters_of Try.func96 (by kernel_rfl) rfl) 97 #[.pointer (some ⟨bb, 0, none⟩)] trivial (enters_of Try.func97 (by kernel_rfl) rfl) _ _ hmax hbytes _ hseq
open Go.RowKit Go.Maps Go.Sort in
theorem Try.maps_Keys_82 (mb : Option Nat) (W : World) : CallsIn Fence.wide 5 Try.prog 82 #[.map mb] W fun e w' => e = .returned (.func (.func 97) #[] #[.pointer (some ⟨W.heap.size, 0, none⟩)]) ∧ w' = W.alloc (.cells #[.map mb] 98) :=
  AnyZ.keys_in Try.keys82 Fence.wide 5 trivial rfl mb W
def Try.keys55_ren : Go.Shelf.Ren := ⟨fun | 7 => 55 | 10 => 80 | n => n, fun | 23 => 96 | 26 => 3 | 3 => 85 | 28 => 104 | 0 => 0 | 27 => 103 | 33 => 123 | 4 => 4 | n => n, fun | n => n⟩
theorem Try.keys55 : Go.Proofs.SlLaysZI.n7 Try.prog Try.keys55_ren := {
  mixed := by kernel_rfl
  f7 := ⟨Try.f55.name, by decide, Try.func55.trans (congrArg some (by kernel_rfl))⟩
  f10 := ⟨Try.f80.name, by decide, Try.func80.trans (congrArg some (by kernel_rfl))⟩
  t0 := Try.underlying0
  a0 := Try.isAgg0
  z0 := Try.sizeOf0
  v0 := Try.zeroValue0
  t4 := Try.underlying4
  a4 := Try.isAgg4
  z4 := Try.sizeOf4
  v4 := Try.zeroValue4
  t23 := Try.underlying96
  a23 := Try.isAgg96
  z23 := Try.sizeOf96
  v23 := Try.zeroValue96
  t26 := Try.underlying3
  a26 := Try.isAgg3
  z26 := Try.sizeOf3
  v26 := Try.zeroValue3
  t27 := Try.underlying103
  a27 := Try.isAgg103
  z27 := Try.sizeOf103
  v27 := Try.zeroValue103
  t28 := Try.underlying104
  a28 := Try.isAgg104
  z28 := Try.sizeOf104
  v28 := Try.zeroValue104
  t33 := Try.underlying123
  a33 := Try.isAgg123
  z33 := Try.sizeOf123
  v33 := Try.zeroValue123 }
def Try.sorted54_ren : Go.Shelf.Ren := ⟨fun | 6 => 54 | 8 => 78 | 9 => 79 | 11 => 92 | 13 => 94 | 12 => 93 | 23 => 112 | 24 => 113 | 14 => 103 | 15 => 104 | 16 => 105 | 17 => 106 | 18 => 107 | 19 => 108 | 20 => 109 | 21 => 110 | 22 => 111 | 25 => 119 | 26 => 120 | 27 => 121 | 28 => 122 | 29 => 123 | 30 => 89 | 31 => 135 | n => n, fun | 26 => 3 | 28 => 104 | 24 => 101 | 0 => 0 | 3 => 3 | 37 => 141 | 48 => 157 | 50 => 159 | 4 => 4 | 40 => 149 | 39 => 148 | 45 => 154 | 5 => 5 | 9 => 9 | 51 => 164 | 55 => 168 | 57 => 177 | 58 => 178 | 33 => 123 | n => n, fun | n => n⟩
theorem Try.sorted54 : Go.Proofs.SlLaysZI.n6 Try.prog Try.sorted54_ren := {
  mixed := by kernel_rfl
  f6 := ⟨Try.f54.name, by decide, Try.func54.trans (congrArg some (by kernel_rfl))⟩
  f8 := ⟨Try.f78.name, by decide, Try.func78.trans (congrArg some (by kernel_rfl))⟩
  f11 := ⟨Try.f92.name, by decide, Try.func92.trans (congrArg some (by kernel_rfl))⟩
  t0 := Try.underlying0
  a0 := Try.isAgg0
  z0 := Try.sizeOf0
  v0 := Try.zeroValue0
  t24 := Try.underlying101
  a24 := Try.isAgg101
  z24 := Try.sizeOf101
  v24 := Try.zeroValue101
  t26 := Try.underlying3
  a26 := Try.isAgg3
  z26 := Try.sizeOf3
  v26 := Try.zeroValue3
  t28 := Try.underlying104
  a28 := Try.isAgg104
  z28 := Try.sizeOf104
  v28 := Try.zeroValue104
  i26 := by kernel_rfl }
def Try.sort79_ren : Go.Shelf.Ren := ⟨fun | 5 => 79 | 8 => 94 | 7 => 93 | 19 => 112 | 20 => 113 | 10 => 103 | 11 => 104 | 12 => 105 | 13 => 106 | 14 => 107 | 15 => 108 | 16 => 109 | 17 => 110 | 18 => 111 | 30 => 119 | 31 => 120 | 32 => 121 | 33 => 122 | 34 => 123 | 35 => 89 | 40 => 135 | n => n, fun | 23 => 101 | 25 => 3 | 3 => 3 | 32 => 141 | 22 => 101 | 0 => 0 | 44 => 157 | 46 => 159 | 4 => 4 | 36 => 149 | 35 => 148 | 41 => 154 | 5 => 5 | 9 => 9 | 53 => 164 | 57 => 168 | 63 => 177 | 64 => 178 | n => n, fun | n => n⟩
theorem Try.sort79 : Go.Proofs.SlLaysM.n5 Try.prog Try.sort79_ren := {
  mixed := by kernel_rfl
  f5 := ⟨Try.f79.name, by decide, Try.func79.trans (congrArg some (by kernel_rfl))⟩
  f7 := ⟨Try.f93.name, by decide, Try.func93.trans (congrArg some (by kernel_rfl))⟩
  f8 := Try.func94.trans (congrArg some (by kernel_rfl))
  f10 := ⟨Try.f103.name, by decide, Try.func103.trans (congrArg some (by kernel_rfl))⟩
  f11 := ⟨Try.f104.name, by decide, Try.func104.trans (congrArg some (by kernel_rfl))⟩
  f12 := ⟨Try.f105.name, by decide, Try.func105.trans (congrArg some (by kernel_rfl))⟩
  f13 := ⟨Try.f106.name, by decide, Try.func106.trans (congrArg some (by kernel_rfl))⟩
  f14 := ⟨Try.f107.name, by decide, Try.func107.trans (congrArg some (by kernel_rfl))⟩
  f15 := ⟨Try.f108.name, by decide, Try.func108.trans (congrArg some (by kernel_rfl))⟩
  f16 := ⟨Try.f109.name, by decide, Try.func109.trans (congrArg some (by kernel_rfl))⟩
  f17 := ⟨Try.f110.name, by decide, Try.func110.trans (congrArg some (by kernel_rfl))⟩
  f18 := ⟨Try.f111.name, by decide, Try.func111.trans (congrArg some (by kernel_rfl))⟩
  f19 := Try.func112.trans (congrArg some (by kernel_rfl))
  f20 := Try.func113.trans (congrArg some (by kernel_rfl))
  f30 := ⟨Try.f119.name, by decide, Try.func119.trans (congrArg some (by kernel_rfl))⟩
  f31 := Try.func120.trans (congrArg some (by kernel_rfl))
  f32 := Try.func121.trans (congrArg some (by kernel_rfl))
  f33 := ⟨Try.f122.name, by decide, Try.func122.trans (congrArg some (by kernel_rfl))⟩
  f34 := ⟨Try.f123.name, by decide, Try.func123.trans (congrArg some (by kernel_rfl))⟩
  f35 := ⟨Try.f89.name, by decide, Try.func89.trans (congrArg some (by kernel_rfl))⟩
  f40 := ⟨Try.f135.name, by decide, Try.func135.trans (congrArg some (by kernel_rfl))⟩
  t0 := Try.underlying0
  a0 := Try.isAgg0
  z0 := Try.sizeOf0
  v0 := Try.zeroValue0
  t3 := Try.underlying3
  a3 := Try.isAgg3
  z3 := Try.sizeOf3
  v3 := Try.zeroValue3
  t4 := Try.underlying4
  a4 := Try.isAgg4
  z4 := Try.sizeOf4
  v4 := Try.zeroValue4
  t5 := Try.underlying5
  a5 := Try.isAgg5
  z5 := Try.sizeOf5
  v5 := Try.zeroValue5
  t9 := Try.underlying9
  a9 := Try.isAgg9
  z9 := Try.sizeOf9
  v9 := Try.zeroValue9
  t22 := Try.underlying101
  a22 := Try.isAgg101
  z22 := Try.sizeOf101
  v22 := Try.zeroValue101
  t23 := Try.underlying101
  a23 := Try.isAgg101
  z23 := Try.sizeOf101
  v23 := Try.zeroValue101
  t25 := Try.underlying3
  a25 := Try.isAgg3
  z25 := Try.sizeOf3
  v25 := Try.zeroValue3
  t32 := Try.underlying141
  a32 := Try.isAgg141
  z32 := Try.sizeOf141
  v32 := Try.zeroValue141
  t35 := Try.underlying148
  a35 := Try.isAgg148
  z35 := Try.sizeOf148
  v35 := Try.zeroValue148
  t36 := Try.underlying149
  a36 := Try.isAgg149
  z36 := Try.sizeOf149
  v36 := Try.zeroValue149
  t41 := Try.underlying154
  a41 := Try.isAgg154
  z41 := Try.sizeOf154
  v41 := Try.zeroValue154
  t44 := Try.underlying157
  a44 := Try.isAgg157
  z44 := Try.sizeOf157
  v44 := Try.zeroValue157
  t46 := Try.underlying159
  a46 := Try.isAgg159
  z46 := Try.sizeOf159
  v46 := Try.zeroValue159
  t53 := Try.underlying164
  a53 := Try.isAgg164
  z53 := Try.sizeOf164
  v53 := Try.zeroValue164
  t57 := Try.underlying168
  a57 := Try.isAgg168
  z57 := Try.sizeOf168
  v57 := Try.zeroValue168
  t63 := Try.underlying177
  a63 := Try.isAgg177
  z63 := Try.sizeOf177
  v63 := Try.zeroValue177
  t64 := Try.underlying178
  a64 := Try.isAgg178
  z64 := Try.sizeOf178
  v64 := Try.zeroValue178 }
open Go.RowKit Go.Maps Go.Sort in
theorem Try.sorts54 (m : Nat) : AnyZI.SortsIn Try.prog Try.sorted54_ren Fence.wide m :=
  ⟨fun blk off cap ss W hH hblk hsz => callsIn_wide.2 (AnyM.slices_Sort_int Try.sort79 blk off cap ss W hH hblk hsz),
   fun p cap W => callsIn_wide.2 (AnyM.slices_Sort_int_none Try.sort79 p cap W)⟩
open Go.RowKit Go.Maps Go.Sort in
theorem Try.sorted_keys_54_80 {H : Type} (bb b nn : Nat) (D0 : DataW H) (R : Value → Option (DataW H × List MemPlace)) (W : World) (hbb : bb < W.heap.size) (hcell : W.cell? ⟨bb, 0, none⟩ = some (.map (some b))) (hown : W.ownsMap Try.prog 3 R b nn D0) (hmax : Maps.size D0 ≤ maxLen) (hbytes : Maps.size D0 * 8 ≤ 140737488355328) :
    CallsIn Fence.wide 5 Try.prog 54 #[.func (.func 80) #[] #[.pointer (some ⟨bb, 0, none⟩)]] W fun e w' => ∃ (v : Value) (ss : List Int), e = .returned v ∧ ss.Perm (intKeys D0) ∧
      w'.ownsRow W.heap.size 3 1 v ss.length ((ss.mergeSort (fun x y => decide (x ≤ y))).map encZ) ∧ (v = .slice none 0 0 ↔ ss = []) ∧ Below W.heap.size W w' := by
  have hseq : SeqGives Fence.wide 2 Try.prog 80 #[.pointer (some ⟨bb, 0, none⟩)] encZ (fun ss => ss.Perm (intKeys D0)) (Maps.size D0) W :=
    AnyZI.keys_gives (ρ := Try.keys55_ren) { Try.keys55 with } Fence.wide _ trivial rfl (by omega) bb b nn D0 W hbb hcell hown
  exact AnyZI.sorted_in Try.sorted54 Fence.wide 5 trivial trivial trivial trivial rfl (by omega) (Try.sorts54 _) (enters_of Try.func79 (by kernel_rfl) rfl) 80 #[.pointer (some ⟨bb, 0, none⟩)] trivial (enters_of Try.func80 (by kernel_rfl) rfl) _ _ hmax hbytes _ hseq
open Go.RowKit Go.Maps Go.Sort in
theorem Try.maps_Keys_55 (mb : Option Nat) (W : World) : CallsIn Fence.wide 5 Try.prog 55 #[.map mb] W fun e w' => e = .returned (.func (.func 80) #[] #[.pointer (some ⟨W.heap.size, 0, none⟩)]) ∧ w' = W.alloc (.cells #[.map mb] 96) :=
  AnyZI.keys_in Try.keys55 Fence.wide 5 trivial rfl mb W
end Go.Proofs
namespace Go.Proofs.Ytaecmkldkljioaa.M.Sh
open Go.RowKit Go.Proofs.Ytaecmkldkljioaa.RX
theorem keys82 {ag : Bool} {α : Type} {d : α} {enc : α → List D} {l : List (MK × α)} : CallsB Try.prog 82 [.mp LIM] [(LIM, 98, [.mapc none ag d enc l])] (.fn 97 [.own 1 0]) [(LIM, 98, [.mapc none ag d enc l]), (1, 98, [.mp LIM])] := callsB_keys ⟨Try.f82, by kernel_rfl, by kernel_rfl, by kernel_rfl⟩ Try.maps_Keys_82
theorem sortedKeys81_97 {ag : Bool} {α : Type} {d : α} {enc : α → List D} {l : List (MK × α)} (h : keysOkS l = true) : CallsB Try.prog 81 [.fn 97 [.own (LIM + 1) 0]] [(LIM, 98, [.mapc none ag d enc l]), (LIM + 1, 98, [.mp LIM])] (.recs (α := List UInt8) [] RX.encS (keysS l)) [(LIM, 98, [.mapc none ag d enc l]), (LIM + 1, 98, [.mp LIM])] := callsB_sortedKeys ⟨Try.f81, by kernel_rfl, by kernel_rfl, by kernel_rfl⟩ (by kernel_rfl) (fun bb b nn D0 W h1 h2 h3 h4 h5 => Try.sorted_keys_81_97 bb b nn D0 anyR W h1 h2 h3 h4 h5) h
theorem keys55 {ag : Bool} {α : Type} {d : α} {enc : α → List D} {l : List (MK × α)} : CallsB Try.prog 55 [.mp LIM] [(LIM, 96, [.mapc (some .i64) ag d enc l])] (.fn 80 [.own 1 0]) [(LIM, 96, [.mapc (some .i64) ag d enc l]), (1, 96, [.mp LIM])] := callsB_keys ⟨Try.f55, by kernel_rfl, by kernel_rfl, by kernel_rfl⟩ Try.maps_Keys_55
theorem sortedKeys54_80 {ag : Bool} {α : Type} {d : α} {enc : α → List D} {l : List (MK × α)} (h : keysOkI l = true) : CallsB Try.prog 54 [.fn 80 [.own (LIM + 1) 0]] [(LIM, 96, [.mapc (some .i64) ag d enc l]), (LIM + 1, 96, [.mp LIM])] (.recs (α := Int) 0 RX.encI (keysI l)) [(LIM, 96, [.mapc (some .i64) ag d enc l]), (LIM + 1, 96, [.mp LIM])] := callsB_sortedKeysI ⟨Try.f54, by kernel_rfl, by kernel_rfl, by kernel_rfl⟩ (by kernel_rfl) (fun bb b nn D0 W h1 h2 h3 h4 h5 => Try.sorted_keys_54_80 bb b nn D0 anyR W h1 h2 h3 h4 h5) h
end Go.Proofs.Ytaecmkldkljioaa.M.Sh
