/-
  Contracts of the library, laid at this program; and in the words of the abstract data.
-/
import Derived.Test.YtljnmojkhajolaaRxShelf
import Derived.Lib.RowBridge
import Derived.Shelf.Small.Bits
import Derived.Shelf.Strconv.Itoa0
import Derived.Shelf.Sort.Plain
import Derived.Shelf.Slices.Turned
import Derived.Shelf.Slices.Equal
import Derived.Shelf.Slices.CompactS
import Derived.Shelf.Slices.Cells
import Derived.Shelf.Slices.In.SortNone
import Derived.Shelf.Slices.Empties2
import Derived.Ground.Names8Prog
import Derived.Shelf.Spec.SlicesGrow
import Derived.Test.YtljnmojkhajolaaProg
namespace Go.Proofs
open Go.Shelf
def Try.lays190_ren : Go.Shelf.Ren := ⟨fun | 190 => 37 | 125 => 44 | 258 => 43 | 128 => 55 | 129 => 56 | 302 => 46 | 303 => 47 | 304 => 48 | 305 => 49 | 306 => 50 | 307 => 51 | 308 => 52 | 309 => 53 | 310 => 54 | 333 => 57 | 329 => 58 | 330 => 59 | 334 => 60 | 335 => 61 | 336 => 62 | 344 => 63 | n => n, fun | 31 => 24 | 9 => 9 | 3 => 3 | 46 => 39 | 0 => 0 | 51 => 52 | 53 => 54 | 4 => 4 | 183 => 44 | 182 => 43 | 131 => 49 | 5 => 5 | 218 => 55 | 222 => 59 | 228 => 61 | 229 => 62 | n => n, fun | n => n⟩
theorem Try.lays190 : Go.Proofs.Lays.n190 Try.prog Try.lays190_ren := {
  mixed := by kernel_rfl
  f125 := Try.func44.trans (congrArg some (by kernel_rfl))
  f128 := Try.func55.trans (congrArg some (by kernel_rfl))
  f129 := Try.func56.trans (congrArg some (by kernel_rfl))
  f190 := Try.func37.trans (congrArg some (by kernel_rfl))
  f258 := Try.func43.trans (congrArg some (by kernel_rfl))
  f302 := Try.func46.trans (congrArg some (by kernel_rfl))
  f303 := Try.func47.trans (congrArg some (by kernel_rfl))
  f304 := Try.func48.trans (congrArg some (by kernel_rfl))
  f305 := Try.func49.trans (congrArg some (by kernel_rfl))
  f306 := Try.func50.trans (congrArg some (by kernel_rfl))
  f307 := Try.func51.trans (congrArg some (by kernel_rfl))
  f308 := Try.func52.trans (congrArg some (by kernel_rfl))
  f309 := Try.func53.trans (congrArg some (by kernel_rfl))
  f310 := Try.func54.trans (congrArg some (by kernel_rfl))
  f329 := Try.func58.trans (congrArg some (by kernel_rfl))
  f330 := Try.func59.trans (congrArg some (by kernel_rfl))
  f333 := Try.func57.trans (congrArg some (by kernel_rfl))
  f334 := Try.func60.trans (congrArg some (by kernel_rfl))
  f335 := Try.func61.trans (congrArg some (by kernel_rfl))
  f336 := Try.func62.trans (congrArg some (by kernel_rfl))
  f344 := Try.func63.trans (congrArg some (by kernel_rfl))
  t0 := Try.underlying0
  a0 := Try.isAgg0
  z0 := Try.sizeOf0
  v0 := Try.zeroValue0
  t3 := Try.underlying3
  a3 := Try.isAgg3
  z3 := Try.sizeOf3
  v3 := Try.zeroValue3
  t4 := Try.underlying4
  a4 := Try.isAgg4
  z4 := Try.sizeOf4
  v4 := Try.zeroValue4
  t5 := Try.underlying5
  a5 := Try.isAgg5
  z5 := Try.sizeOf5
  v5 := Try.zeroValue5
  t9 := Try.underlying9
  a9 := Try.isAgg9
  z9 := Try.sizeOf9
  v9 := Try.zeroValue9
  t31 := Try.underlying24
  a31 := Try.isAgg24
  z31 := Try.sizeOf24
  v31 := Try.zeroValue24
  t46 := Try.underlying39
  a46 := Try.isAgg39
  z46 := Try.sizeOf39
  v46 := Try.zeroValue39
  t51 := Try.underlying52
  a51 := Try.isAgg52
  z51 := Try.sizeOf52
  v51 := Try.zeroValue52
  t53 := Try.underlying54
  a53 := Try.isAgg54
  z53 := Try.sizeOf54
  v53 := Try.zeroValue54
  t131 := Try.underlying49
  a131 := Try.isAgg49
  z131 := Try.sizeOf49
  v131 := Try.zeroValue49
  t182 := Try.underlying43
  a182 := Try.isAgg43
  z182 := Try.sizeOf43
  v182 := Try.zeroValue43
  t183 := Try.underlying44
  a183 := Try.isAgg44
  z183 := Try.sizeOf44
  v183 := Try.zeroValue44
  t218 := Try.underlying55
  a218 := Try.isAgg55
  z218 := Try.sizeOf55
  v218 := Try.zeroValue55
  t222 := Try.underlying59
  a222 := Try.isAgg59
  z222 := Try.sizeOf59
  v222 := Try.zeroValue59
  t228 := Try.underlying61
  a228 := Try.isAgg61
  z228 := Try.sizeOf61
  v228 := Try.zeroValue61
  t229 := Try.underlying62
  a229 := Try.isAgg62
  z229 := Try.sizeOf62
  v229 := Try.zeroValue62 }
open Go.Sort Go.RowKit in
theorem Try.slices_Sort_string (blk off cap : Nat) (ss : List (List UInt8)) (w : World) (hH : Holds encStr w blk off ss.toArray) (hblk : blk < w.heap.size) (hsz : ss.length < 4611686018427387904) :
    Calls Try.prog 37 #[.slice (some ⟨blk, off, none⟩) ss.length cap] w fun e w' =>
      e = .returned (.tuple #[]) ∧ ∃ n os, w' = grow (putRow encStr (Sort.ahead w n) blk off (ss.mergeSort fun x y => decide (x ≤ y)).toArray) os := Any.slices_Sort_string Try.lays190 blk off cap ss w hH hblk hsz
open Go.RowKit Go.Sort in
theorem Try.slices_Sort_string_none (p : Option Addr) (cap : Nat) (w : World) :
    Calls Try.prog 37 #[.slice p 0 cap] w fun e w' => e = .returned (.tuple #[]) ∧ w' = w := Any.slices_Sort_string_none Try.lays190 p cap w
def Try.lays194_ren : Go.Shelf.Ren := ⟨fun | 194 => 38 | n => n, fun | 31 => 24 | 9 => 9 | 3 => 3 | 4 => 4 | 0 => 0 | n => n, fun | n => n⟩
theorem Try.lays194 : Go.Proofs.Lays.n194 Try.prog Try.lays194_ren := {
  mixed := by kernel_rfl
  f194 := Try.func38.trans (congrArg some (by kernel_rfl))
  t0 := Try.underlying0
  a0 := Try.isAgg0
  z0 := Try.sizeOf0
  v0 := Try.zeroValue0
  t3 := Try.underlying3
  a3 := Try.isAgg3
  z3 := Try.sizeOf3
  v3 := Try.zeroValue3
  t4 := Try.underlying4
  a4 := Try.isAgg4
  z4 := Try.sizeOf4
  v4 := Try.zeroValue4
  t9 := Try.underlying9
  a9 := Try.isAgg9
  z9 := Try.sizeOf9
  v9 := Try.zeroValue9
  t31 := Try.underlying24
  a31 := Try.isAgg24
  z31 := Try.sizeOf24
  v31 := Try.zeroValue24 }
open Go.RowKit Go.Lib Go.Sort in
theorem Try.slices_Compact_string (blk off cap : Nat) (zs : List (List UInt8)) (w : World) (hH : Holds encStr w blk off zs.toArray) (hsz : zs.length ≤ 9223372036854775807) (hcap : zs.length ≤ cap) :
    Calls Try.prog 38 #[.slice (some ⟨blk, off, none⟩) zs.length cap] w fun e w' => e = .returned (.slice (some ⟨blk, off, none⟩) (Lib.compact zs).length cap) ∧ ∃ q, w' = putRow encStr (Sort.ahead w q) blk off (Lib.compact zs ++ List.replicate (zs.length - (Lib.compact zs).length) []).toArray := Any.slices_Compact_string Try.lays194 blk off cap zs w hH hsz hcap
open Go.RowKit Go.Lib Go.Sort in
theorem Try.slices_Compact_string_empty (a : Option Addr) (cap : Nat) (w : World) :
    Calls Try.prog 38 #[.slice a 0 cap] w fun e w' => e = .returned (.slice a 0 cap) ∧ w' = w := Any.slices_Compact_string_empty Try.lays194 a cap w
def Try.laysG45_ren : Go.Shelf.Ren := ⟨fun | 4 => 45 | n => n, fun | 22 => 24 | 25 => 9 | 3 => 3 | 4 => 4 | 9 => 9 | 20 => 20 | 0 => 0 | n => n, fun | n => n⟩
theorem Try.laysG45 : Go.Proofs.Lays8.n4 Try.prog Try.laysG45_ren := {
  mixed := by kernel_rfl
  f4 := ⟨Try.f45.name, by decide, Try.func45.trans (congrArg some (by kernel_rfl))⟩
  t0 := Try.underlying0
  a0 := Try.isAgg0
  z0 := Try.sizeOf0
  v0 := Try.zeroValue0
  t3 := Try.underlying3
  a3 := Try.isAgg3
  z3 := Try.sizeOf3
  v3 := Try.zeroValue3
  t4 := Try.underlying4
  a4 := Try.isAgg4
  z4 := Try.sizeOf4
  v4 := Try.zeroValue4
  t9 := Try.underlying9
  a9 := Try.isAgg9
  z9 := Try.sizeOf9
  v9 := Try.zeroValue9
  t20 := Try.underlying20
  a20 := Try.isAgg20
  z20 := Try.sizeOf20
  v20 := Try.zeroValue20
  t22 := Try.underlying24
  a22 := Try.isAgg24
  z22 := Try.sizeOf24
  v22 := Try.zeroValue24 }
end Go.Proofs
namespace Go.Proofs.Ytljnmojkhajolaa.M.Sh
open Go.RowKit Go.Proofs.Ytljnmojkhajolaa.RX
abbrev sort := strSort
theorem sort37 {l : List (List UInt8)} (h : decide (List.length l * 17 ≤ limit) = true) : CallsB Try.prog 37 [.row 1000000] [(1000000, 9, [.rowc false (α := List UInt8) [] RX.encS l])] (.tup []) [(1000000, 9, [.rowc false (α := List UInt8) [] RX.encS (sort l)])] := callsB_sort ⟨Try.f37, by kernel_rfl, by kernel_rfl, by kernel_rfl⟩ Try.slices_Sort_string Try.slices_Sort_string_none h
theorem compact38 {l : List (List UInt8)} (h : decide (List.length l * 17 ≤ limit) = true) : CallsB Try.prog 38 [.row 1000000] [(1000000, 9, [.rowc false (α := List UInt8) [] RX.encS l])] (.recs (α := List UInt8) [] RX.encS (Lib.compact l)) [] := callsB_compact ⟨Try.f38, by kernel_rfl, by kernel_rfl, by kernel_rfl⟩ Try.slices_Compact_string Try.slices_Compact_string_empty (Lib.compact_length_le l) h
theorem grow45 {x : Int} (h : decide (0 ≤ x ∧ x * 17 ≤ (limit : Int)) = true) : CallsB Try.prog 45 [.val (.slice none 0 0), .val (.int .i64 x)] [] (.row 1) [(1, 9, [.rowc false (α := List UInt8) [] RX.encS []])] := callsB_growI (size := 1) (bytes := 16) ⟨Try.f45, by kernel_rfl, by kernel_rfl, by kernel_rfl⟩ ⟨Nat.zero_lt_one, fun _ => ⟨rfl, rfl⟩⟩ (by kernel_rfl) rfl
  (fun w => Any8.slices_Grow_room Try.laysG45 none 0 0 0 w (by decide) (by decide) (by decide) (by decide))
  (fun i z hi hz hs n w h1 h2 h3 => by
    have h := Any8.slices_Grow_grow Try.laysG45 i z hi hz hs none 0 0 n [] w (Nat.le_refl _) (by omega) (by simpa using h2) (by simpa using h3) (by simp) (fun _ => rfl) (fun a h => by cases h)
    simp only [Nat.zero_add, Nat.sub_zero] at h
    exact h) h
end Go.Proofs.Ytljnmojkhajolaa.M.Sh
