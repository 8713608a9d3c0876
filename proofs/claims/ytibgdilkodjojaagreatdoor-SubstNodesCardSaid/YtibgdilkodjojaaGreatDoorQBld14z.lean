import Derived.Test.YtibgdilkodjojaaGreatDoorQRxBld
import Derived.Test.YtibgdilkodjojaaGreatDoorProg
set_option linter.all false
namespace Go.Proofs.YtibgdilkodjojaaGreatDoor.M
open Go Go.Shelf Go.Proofs Go.RowKit Go.Proofs.YtibgdilkodjojaaGreatDoor.RX
set_option maxHeartbeats 1000000
set_option maxRecDepth 100000
theorem cc_used (b:Nat) (w:World) (h0:w.cell? ⟨b,0,none⟩ = some (.pointer (some ⟨b,0,none⟩))) :
  Calls Tryz.prog 65 #[.pointer (some ⟨b,0,none⟩)] w fun e w'=>e = .returned (.tuple #[]) ∧ w' = w:=by
 obtain ⟨j,hj⟩:∃ j,Tryz.prog.info? 77 = some j:=⟨_,rfl⟩
 have mixed:Tryz.prog.follows .mixedOrders = true:=by kernel_rfl
 have t72 : Tryz.prog.underlying 77 = some (TypeDesc.struct #[{ name := "addr", type := 74, offset := 0, embedded := false, tag := "", pkgPath := "strings", byteOffset := 0 }, { name := "buf", type := 75, offset := 1, embedded := false, tag := "", pkgPath := "strings", byteOffset := 8 }]) := by kernel_rfl
 have a72:∀ w,(isAgg 77).run Tryz.prog w = .ok true w:=fun w=>by kernel_rfl
 have z72:∀ w,(Go.sizeOf 77).run Tryz.prog w = .ok 2 w:=fun w=>by kernel_rfl
 have u72:=run_underlying t72
 have t70:Tryz.prog.underlying 74 = some (TypeDesc.pointer 77):=by kernel_rfl
 have a70:∀ w,(isAgg 74).run Tryz.prog w = .ok false w:=fun w=>by kernel_rfl
 have z70:∀ w,(Go.sizeOf 74).run Tryz.prog w = .ok 1 w:=fun w=>by kernel_rfl
 have v70:∀ w,(zeroValue 74).run Tryz.prog w = .ok (Value.pointer none) w:=fun w=>by kernel_rfl
 have u70:=run_underlying t70
 go_enter (show Tryz.prog.funcs[65]? = some Tryz.f65 from by kernel_rfl),(show Tryz.f65.ntmps = 20 from rfl)
 go_wp2
 rw [Lib.run_neq_ptr_same w _ t70 hj]
 go_wp2
 go_end0
 exact ⟨rfl,rfl⟩
theorem cc_fresh (b:Nat) (w:World) (h0:w.cell? ⟨b,0,none⟩ = some (.pointer none)) (hsh:w.shape? b = some (77,2)) (hfz:w.frozen? ⟨b,0,none⟩ = false) :
  Calls Tryz.prog 65 #[.pointer (some ⟨b,0,none⟩)] w fun e w'=>e = .returned (.tuple #[]) ∧ w' = w.setCell ⟨b,0,none⟩ (.pointer (some ⟨b,0,none⟩)):=by
 obtain ⟨j,hj,hjs⟩:∃ j,Tryz.prog.info? 77 = some j ∧ j.size = 2:=⟨_,rfl,rfl⟩
 have mixed:Tryz.prog.follows .mixedOrders = true:=by kernel_rfl
 have t72 : Tryz.prog.underlying 77 = some (TypeDesc.struct #[{ name := "addr", type := 74, offset := 0, embedded := false, tag := "", pkgPath := "strings", byteOffset := 0 }, { name := "buf", type := 75, offset := 1, embedded := false, tag := "", pkgPath := "strings", byteOffset := 8 }]) := by kernel_rfl
 have a72:∀ w,(isAgg 77).run Tryz.prog w = .ok true w:=fun w=>by kernel_rfl
 have z72:∀ w,(Go.sizeOf 77).run Tryz.prog w = .ok 2 w:=fun w=>by kernel_rfl
 have u72:=run_underlying t72
 have t70:Tryz.prog.underlying 74 = some (TypeDesc.pointer 77):=by kernel_rfl
 have a70:∀ w,(isAgg 74).run Tryz.prog w = .ok false w:=fun w=>by kernel_rfl
 have z70:∀ w,(Go.sizeOf 74).run Tryz.prog w = .ok 1 w:=fun w=>by kernel_rfl
 have v70:∀ w,(zeroValue 74).run Tryz.prog w = .ok (Value.pointer none) w:=fun w=>by kernel_rfl
 have u70:=run_underlying t70
 have t164:Tryz.prog.underlying 130 = some TypeDesc.unsafePointer:=by kernel_rfl
 have a164:∀ w,(isAgg 130).run Tryz.prog w = .ok false w:=fun w=>by kernel_rfl
 have z164:∀ w,(Go.sizeOf 130).run Tryz.prog w = .ok 1 w:=fun w=>by kernel_rfl
 have u164:=run_underlying t164
 have hlies:liesAt Tryz.prog Tryz.prog.depth 77 (2 / Tryz.prog.cellsOf 77) 0 77 1 = true:=by kernel_rfl
 go_enter (show Tryz.prog.funcs[65]? = some Tryz.f65 from by kernel_rfl),(show Tryz.f65.ntmps = 20 from rfl)
 go_wp2
 rw [Lib.run_to_unsafe w ⟨b,0,none⟩ t70 t164 hj (by rw [hjs]; decide) hsh (Nat.zero_lt_succ 1)]
 simp only [Result.andThen]
 rw [Oper.upon_value]
 go_wp2
 rw [run_callFunc_extern (show Tryz.prog.funcs[89]? = some Tryz.f89 from by kernel_rfl) (by kernel_rfl) (by kernel_rfl) (by kernel_rfl) (e:=Extern.AbiNoEscape.same) (by kernel_rfl)]
 rw [Lib.run_noEscape]
 simp only [Result.andThen]
 rw [Oper.upon_value]
 go_wp2
 rw [Lib.run_from_unsafe w ⟨b,0,none⟩ t164 t70 hj hsh hlies]
 simp only [Result.andThen]
 rw [Oper.upon_value]
 go_wp2
 go_end0
 exact ⟨rfl,rfl⟩
def bren:Ren:=⟨fun n=>match n with | 240=>65 | 166=>41 | 167=>0 | 169=>43 | _=>0,fun n=>match n with | 3=>3 | 5=>5 | 9=>9 | 37=>75 | 70=>74 | 72=>77 | 75=>79 | 127=>108 | _=>0,fun n=>n⟩
theorem btypes:BTypes Tryz.prog bren where
 mixed:=by kernel_rfl
 t72:=by kernel_rfl
 a72:=fun w=>by kernel_rfl
 z72:=fun w=>by kernel_rfl
 v72:=fun w=>by kernel_rfl
 t70:=by kernel_rfl
 a70:=fun w=>by kernel_rfl
 z70:=fun w=>by kernel_rfl
 v70:=fun w=>by kernel_rfl
 t37:=by kernel_rfl
 a37:=fun w=>by kernel_rfl
 z37:=fun w=>by kernel_rfl
 v37:=fun w=>by kernel_rfl
 t3:=by kernel_rfl
 a3:=fun w=>by kernel_rfl
 z3:=fun w=>by kernel_rfl
 v3:=fun w=>by kernel_rfl
 t9:=by kernel_rfl
 a9:=fun w=>by kernel_rfl
 z9:=fun w=>by kernel_rfl
 v9:=fun w=>by kernel_rfl
 e240:=enters_of (fn:=Tryz.f65) (by kernel_rfl) (by kernel_rfl) rfl
 fresh:=cc_fresh
 used:=cc_used
theorem b166:Tryz.prog.funcs[bren.f 166]? = some (Body.n166 bren):=by kernel_rfl
theorem bextra:Builder.Extra Tryz.prog bren:={
 sizeBuilder:=by kernel_rfl
 liesBuilder:=by kernel_rfl
 t5:=by kernel_rfl
 a5:=fun w=>by kernel_rfl
 z5:=fun w=>by kernel_rfl
 v5:=fun w=>by kernel_rfl
 infoByte:=by kernel_rfl
 cellsByte:=by kernel_rfl
 sizeByte:=by kernel_rfl
 neB5:=by decide }
theorem blays169:Lays.n169 Tryz.prog bren:={
 mixed:=by kernel_rfl
 f169:=by kernel_rfl
 t0:=by kernel_rfl
 a0:=fun w=>by kernel_rfl
 z0:=fun w=>by kernel_rfl
 v0:=fun w=>by kernel_rfl
 t3:=by kernel_rfl
 a3:=fun w=>by kernel_rfl
 z3:=fun w=>by kernel_rfl
 v3:=fun w=>by kernel_rfl
 t9:=by kernel_rfl
 a9:=fun w=>by kernel_rfl
 z9:=fun w=>by kernel_rfl
 v9:=fun w=>by kernel_rfl
 t37:=by kernel_rfl
 a37:=fun w=>by kernel_rfl
 z37:=fun w=>by kernel_rfl
 v37:=fun w=>by kernel_rfl
 t70:=by kernel_rfl
 a70:=fun w=>by kernel_rfl
 z70:=fun w=>by kernel_rfl
 v70:=fun w=>by kernel_rfl
 t72:=by kernel_rfl
 a72:=fun w=>by kernel_rfl
 z72:=fun w=>by kernel_rfl
 v72:=fun w=>by kernel_rfl
 t127:=by kernel_rfl
 a127:=fun w=>by kernel_rfl
 z127:=fun w=>by kernel_rfl
 v127:=fun w=>by kernel_rfl }
theorem writeString {l s:List UInt8} (h:decide ((l.length + s.length) * (1 + 1) ≤ limit) = true) :
  CallsB Tryz.prog 41 [.own LIM 0,.str s] [(LIM,77,[.opt LIM,.srow (LIM + 1)]),(LIM + 1,5,[.rowc false (0:UInt8) e8 l])] (.tup [.val (.int .i64 (s.length:Int)),.val .nilIface]) [(LIM,77,[.opt LIM,.srow 1]),(1,5,[.rowc false (0:UInt8) e8 (l ++ s)])] :=
 bwriteString btypes b166 bextra ⟨Tryz.f41,by kernel_rfl,by kernel_rfl,by kernel_rfl⟩ h
theorem bstring {l:List UInt8} :
  CallsB Tryz.prog 43 [.own LIM 0] [(LIM,77,[.opt LIM,.srow (LIM + 1)]),(LIM + 1,5,[.rowc false (0:UInt8) e8 l])] (.str l) [(LIM,77,[.opt LIM,.hole])] :=
 callsB_bstring ⟨Tryz.f43,by kernel_rfl,by kernel_rfl,by kernel_rfl⟩ fun b n cap q p w hbk hn hown=>bstring_any blays169 bextra l b n cap q p w hbk hn hown
end Go.Proofs.YtibgdilkodjojaaGreatDoor.M
