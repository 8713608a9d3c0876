import Derived.Test.YtibgdilkodjojaaDoorQRxShelf
import Derived.Test.YtibgdilkodjojaaDoorQRxNil
import Derived.Shelf.Strings.Builder1
set_option linter.all false
namespace Go.Proofs.YtibgdilkodjojaaDoor.RX
open Go.RowKit
structure Quiet (q:Option Nat) (w w':World):Prop where
 os:w'.os = w.os
 tape:w'.tape = w.tape
 output:w'.output = w.output
 size:w.heap.size ≤ w'.heap.size
 block:∀ k,k < w.heap.size → q ≠ some k → w'.heap[k]? = w.heap[k]?
theorem Quiet.of {q:Option Nat} {w w':World} (h:Below w.heap.size w w'):Quiet q w w':=⟨h.os,h.tape,h.output,h.size,fun k hk _=>h.block k hk⟩
end Go.Proofs.YtibgdilkodjojaaDoor.RX
namespace Go.Proofs.YtibgdilkodjojaaDoor.RX
open Go.Shelf Go.RowKit Go.Proofs
structure BTypes (P:Program) (ρ:Ren):Prop where
 mixed:P.follows .mixedOrders = true
 t72 : P.underlying (ρ.t 72) = some (TypeDesc.struct #[{ name := "addr", type := ρ.t 70, offset := 0, embedded := false, tag := "", pkgPath := "strings", byteOffset := 0 }, { name := "buf", type := ρ.t 37, offset := 1, embedded := false, tag := "", pkgPath := "strings", byteOffset := 8 }])
 a72:∀ w,(isAgg (ρ.t 72)).run P w = .ok true w
 z72:∀ w,(Go.sizeOf (ρ.t 72)).run P w = .ok 2 w
 v72:∀ w,(zeroValue (ρ.t 72)).run P w = .ok (Value.agg #[Value.pointer none,Value.slice none 0 0]) w
 t70:P.underlying (ρ.t 70) = some (TypeDesc.pointer (ρ.t 72))
 a70:∀ w,(isAgg (ρ.t 70)).run P w = .ok false w
 z70:∀ w,(Go.sizeOf (ρ.t 70)).run P w = .ok 1 w
 v70:∀ w,(zeroValue (ρ.t 70)).run P w = .ok (Value.pointer none) w
 t37:P.underlying (ρ.t 37) = some (TypeDesc.slice (ρ.t 5))
 a37:∀ w,(isAgg (ρ.t 37)).run P w = .ok false w
 z37:∀ w,(Go.sizeOf (ρ.t 37)).run P w = .ok 1 w
 v37:∀ w,(zeroValue (ρ.t 37)).run P w = .ok (Value.slice none 0 0) w
 t3:P.underlying (ρ.t 3) = some (TypeDesc.int IntKind.i64)
 a3:∀ w,(isAgg (ρ.t 3)).run P w = .ok false w
 z3:∀ w,(Go.sizeOf (ρ.t 3)).run P w = .ok 1 w
 v3:∀ w,(zeroValue (ρ.t 3)).run P w = .ok (Value.int IntKind.i64 0) w
 t9:P.underlying (ρ.t 9) = some (TypeDesc.string)
 a9:∀ w,(isAgg (ρ.t 9)).run P w = .ok false w
 z9:∀ w,(Go.sizeOf (ρ.t 9)).run P w = .ok 1 w
 v9:∀ w,(zeroValue (ρ.t 9)).run P w = .ok (Value.string { data:=#[] }) w
 e240:∀ args w,(callFunc (ρ.f 240) args).run P w = .ok (.enter (ρ.f 240) args) w
 fresh:∀ b w,w.cell? ⟨b,0,none⟩ = some (.pointer none) → w.shape? b = some (ρ.t 72,2) → w.frozen? ⟨b,0,none⟩ = false →
  Calls P (ρ.f 240) #[.pointer (some ⟨b,0,none⟩)] w fun e w'=>e = .returned (.tuple #[]) ∧ w' = w.setCell ⟨b,0,none⟩ (.pointer (some ⟨b,0,none⟩))
 used:∀ b w,w.cell? ⟨b,0,none⟩ = some (.pointer (some ⟨b,0,none⟩)) → Calls P (ρ.f 240) #[.pointer (some ⟨b,0,none⟩)] w fun e w'=>e = .returned (.tuple #[]) ∧ w' = w
section
variable {P:Program} {nt:Nat} {F0:Fz} {w0:Pt P} {K:List (Nat × D)} {L:Boxes} {Q:Exit → Act → World → Prop}
end
end Go.Proofs.YtibgdilkodjojaaDoor.RX
