/-
  Part of the proof of PortLists: Comp16.
-/
import Derived.Test.YtonjhkefnijlhaaDoorQSh16L
import Derived.Test.YtonjhkefnijlhaaDoorQCompK
import Derived.Sort.WalkB2
import Derived.Sort.WalkB12
import Derived.Deep.LoopGhost
import Derived.WalkKit
set_option linter.all false
namespace Go.Proofs.YtonjhkefnijlhaaDoor.M
open Go Go.RowKit Go.Shelf Go.Lib Go.Sort Go.Proofs.YtonjhkefnijlhaaDoor.CK
theorem cells4 {α : Type} [Inhabited α] {enc : α → List Value} {w0 W : World} {blk off : Nat} {d0 dk : Array α} (h : SWK enc 4 w0 blk off dk W) (R : RowK enc 4 w0 blk off d0) (hs : dk.size = d0.size) (i : Nat) (hi : i < dk.size) {a b c e : Value} (he : enc dk[i]! = [a, b, c, e]) :
    (W.cell? ⟨blk, off + i * 4, none⟩ = some a ∧ W.cell? ⟨blk, off + i * 4 + 1, none⟩ = some b ∧ W.cell? ⟨blk, off + i * 4 + 2, none⟩ = some c ∧ W.cell? ⟨blk, off + i * 4 + 3, none⟩ = some e) ∧
    (W.frozen? ⟨blk, off + i * 4, none⟩ = false ∧ W.frozen? ⟨blk, off + i * 4 + 1, none⟩ = false ∧ W.frozen? ⟨blk, off + i * 4 + 2, none⟩ = false ∧ W.frozen? ⟨blk, off + i * 4 + 3, none⟩ = false) := by
  have hH := h.holds R.hblk R.hH hs
  have c0 := hH.cell hi (show 0 < 4 by omega)
  have c1 := hH.cell hi (show 1 < 4 by omega)
  have c2 := hH.cell hi (show 2 < 4 by omega)
  have c3 := hH.cell hi (show 3 < 4 by omega)
  rw [he] at c0 c1 c2 c3
  exact ⟨⟨c0.1, c1.1, c2.1, c3.1⟩, c0.2, c1.2, c2.2, c3.2⟩
theorem four {l : List Value} (h : l.length = 4) : ∃ a b c e, l = [a, b, c, e] := by
  match l, h with
  | [a, b, c, e], _ => exact ⟨a, b, c, e, rfl⟩
set_option maxHeartbeats 4000000 in
set_option maxRecDepth 1000000 in
theorem compact52 {α : Type} [Inhabited α] [DecidableEq α] (enc : α → List Value) (hk : ∀ x, (enc x).length = 4)
    (aE : ∀ w, (isAgg 24).run Tryd.prog w = .ok true w) (zE : ∀ w, (Go.sizeOf 24).run Tryd.prog w = .ok 4 w)
    (heq : ∀ (x y : α) (w : World), Sem.run Tryd.prog (binOp .eql 24 (.agg (enc x).toArray) (.agg (enc y).toArray)) w = .ok (.bool (decide (x = y))) w)
    (hne : ∀ (x y : α) (w : World), Sem.run Tryd.prog (binOp .neq 24 (.agg (enc x).toArray) (.agg (enc y).toArray)) w = .ok (.bool (!decide (x = y))) w)
    (hgE : ∀ (a b : Operand) (x y : α) (w : World), Sem.run Tryd.prog (eqGuard .eql 24 a b (.agg (enc x).toArray) (.agg (enc y).toArray)) w = .ok () w) (hgN : ∀ (a b : Operand) (x y : α) (w : World), Sem.run Tryd.prog (eqGuard .neq 24 a b (.agg (enc x).toArray) (.agg (enc y).toArray)) w = .ok () w)
    (zr : α) (hz : ∀ w, (zeroValue 24).run Tryd.prog w = .ok (.agg (enc zr).toArray) w) (blk off cap : Nat) (d : Array α) (w0 w : World) (R : RowK enc 4 w0 blk off d) (S : SWK enc 4 w0 blk off d w) (hsz : d.size < 4611686018427387904) (hcap : d.size ≤ cap) :
    Calls Tryd.prog 52 #[.slice (some ⟨blk, off, none⟩) d.size cap] w fun e w' => e = .returned (.slice (some ⟨blk, off, none⟩) (compactUpTo d d.size).length cap) ∧ ∃ d' : Array α, SWK enc 4 w0 blk off d' w' ∧ d'.size = d.size ∧ d'.toList.take (compactUpTo d d.size).length = compactUpTo d d.size := by
  have mixed : Tryd.prog.follows .mixedOrders = true := by kernel_rfl
  have same : (∀ j, j < d.size → keeps d j = true) → (compactUpTo d d.size).length = d.size ∧ d.toList.take (compactUpTo d d.size).length = compactUpTo d d.size := by
    intro hall
    have e : compactUpTo d d.size = d.toList := by rw [compactUpTo_all d _ hall, range_map_get]
    rw [e]
    exact ⟨by simp, by simp [List.take_of_length_le]⟩
  have HS : Aside ((∀ j, j < d.size → keeps d j = true) → (compactUpTo d d.size).length = d.size ∧ d.toList.take (compactUpTo d d.size).length = compactUpTo d d.size) := same
  clear same
  have S0 : Aside (SWK enc 4 w0 blk off d w) := S
  clear S
  by_cases h2 : d.size < 2
  · go_enter Tryd.func52, Tryd.ntmps52
    go_wp2
    go_ret
    obtain ⟨e1, e2⟩ := HS.out (fun j hj => keeps_lt_one d j (by omega))
    exact ⟨by rw [e1]; rfl, d, S0.out, rfl, e2⟩
  · go_enter Tryd.func52, Tryd.ntmps52
    go_wp2
    go_loopg [3] d.size (fun g s3 wr => ∃ k : Nat, 1 ≤ k ∧ k ≤ d.size ∧ d.size - k ≤ g ∧ s3 = .int .i64 k ∧ Aside (SWK enc 4 w0 blk off d wr) ∧ ∀ j, j < k → keeps d j = true)
    case atStart => exact ⟨1, Nat.le_refl _, by omega, by omega, rfl, S0, keeps_lt_one d⟩
    case round =>
      clear S0
      obtain ⟨k, hk1, hkd, hg, rfl, S1, hall⟩ := hrel
      have A : Aside (∀ j, j < k → keeps d j = true) := hall
      clear hall
      by_cases hlt : k < d.size
      · obtain ⟨kp, rfl⟩ : ∃ kp, k = kp + 1 := ⟨k - 1, by omega⟩
        have hwp : IntKind.i64.wrap (kp : Int) = (kp : Int) := by rw [IntKind.wrap_i64]; omega
        have jz : (kp : Int) + 1 < (d.size : Int) := by omega
        have jz1 : (kp : Int) < (d.size : Int) := by omega
        have p0 : (0 : Int) ≤ (kp : Int) + 1 := by omega
        have e0 : ((kp : Int) + 1).toNat = kp + 1 := by omega
        obtain ⟨x, hx⟩ : ∃ x, d[kp + 1]! = x := ⟨_, rfl⟩
        obtain ⟨y, hy⟩ : ∃ x, d[kp]! = x := ⟨_, rfl⟩
        have hq := heq x y
        have hg2 := fun a b w => hgE a b x y w
        obtain ⟨xa, xb, xc, xe, hE⟩ := four (hk x)
        obtain ⟨ya, yb, yc, ye, hE'⟩ := four (hk y)
        obtain ⟨⟨k0, k1, k2, k3⟩, _⟩ := cells4 S1.out.drew R rfl (kp + 1) hlt (by rw [hx]; exact hE)
        obtain ⟨⟨m0, m1, m2, m3⟩, _⟩ := cells4 S1.out.drew R rfl kp (by omega) (by rw [hy]; exact hE')
        have B : Aside (d[kp + 1]! = x ∧ d[kp]! = y) := ⟨hx, hy⟩
        clear hx hy
        rw [hE, hE'] at hq hg2
        clear hE hE'
        by_cases hdup : x = y
        · rw [decide_eq_true hdup] at hq
          go_wp2_with fail
          go_region_o
          clear k0 k1 k2 k3 m0 m1 m2 m3 hq hg2
          have S2 : Aside (SWK enc 4 w0 blk off d wr.drew) := S1.out.drew
          clear S1
          generalize wr.drew = wr0 at S2 ⊢
          go_wp2
          go_loopg [3, 5] d.size (fun g s3 s5 wr => ∃ (kk k2 : Nat) (dk : Array α), s3 = .int .i64 kk ∧ s5 = .int .i64 k2 ∧ 1 ≤ k2 ∧ kp + 1 + k2 ≤ d.size ∧ d.size - (kp + 1 + k2) ≤ g ∧ Aside (SWK enc 4 w0 blk off dk wr) ∧ Aside (CompInv d (kp + 1 + k2) kk dk))
          case atStart => exact ⟨kp + 1, 1, d, rfl, rfl, Nat.le_refl _, by omega, by omega, S2, CompInv.start A.out (keeps_neg (by omega) (by rw [B.out.1, show kp + 1 - 1 = kp by omega, B.out.2, hdup]))⟩
          case round =>
            clear S2
            obtain ⟨kk, k2, dk, rfl, rfl, h1', hle, hg2, S3, I3⟩ := hrel
            have hkk : kk < kp + 1 + k2 := I3.out.lt
            have hds : dk.size = d.size := I3.out.size
            by_cases hlt2 : kp + 1 + k2 < d.size
            · obtain ⟨q, rfl⟩ : ∃ q, k2 = q + 1 := ⟨k2 - 1, by omega⟩
              have hwq : IntKind.i64.wrap (q : Int) = (q : Int) := by rw [IntKind.wrap_i64]; omega
              have jq : (q : Int) + 1 < ((d.size - (kp + 1) : Nat) : Int) := by omega
              have jq1 : (q : Int) < ((d.size - (kp + 1) : Nat) : Int) := by omega
              have pq : (0 : Int) ≤ (q : Int) + 1 := by omega
              have eq0 : ((q : Int) + 1).toNat = q + 1 := by omega
              obtain ⟨u, hu⟩ : ∃ x, d[kp + 1 + (q + 1)]! = x := ⟨_, rfl⟩
              obtain ⟨v, hv⟩ : ∃ x, d[kp + 1 + q]! = x := ⟨_, rfl⟩
              have hu' : dk[kp + 1 + (q + 1)]! = u := by rw [I3.out.high _ (by omega)]; exact hu
              have hv' : dk[kp + 1 + q]! = v := by rw [I3.out.high _ (by omega)]; exact hv
              have hq2 := hne u v
              have hg3 := fun a b w => hgN a b u v w
              obtain ⟨xa, xb, xc, xe, hE⟩ := four (hk u)
              obtain ⟨ya, yb, yc, ye, hE'⟩ := four (hk v)
              obtain ⟨⟨a0, a1, a2, a3⟩, _⟩ := cells4 S3.out.drew R hds (kp + 1 + (q + 1)) (by omega) (by rw [hu']; exact hE)
              obtain ⟨⟨b0, b1, b2, b3⟩, _⟩ := cells4 S3.out.drew R hds (kp + 1 + q) (by omega) (by rw [hv']; exact hE')
              rw [show off + (kp + 1 + (q + 1)) * 4 = off + (kp + 1) * 4 + (q + 1) * 4 by omega] at a0 a1 a2 a3
              rw [show off + (kp + 1 + q) * 4 = off + (kp + 1) * 4 + q * 4 by omega] at b0 b1 b2 b3
              have C : Aside (d[kp + 1 + (q + 1)]! = u ∧ d[kp + 1 + q]! = v) := ⟨hu, hv⟩
              clear hu hv hu' hv'
              rw [hE, hE'] at hq2 hg3
              have EU : Aside (enc u = [xa, xb, xc, xe]) := hE
              clear hE hE'
              by_cases huv : u = v
              · rw [decide_eq_true huv] at hq2
                go_wp2_with fail
                go_region_o
                clear a0 a1 a2 a3 b0 b1 b2 b3 hq2 hg3
                go_wp2
                go_roundg (d.size - (kp + 1 + (q + 1 + 1)))
                case measure => omega
                case rel => exact ⟨kk, q + 1 + 1, dk, rfl, by go_num, by omega, by omega, Nat.le_refl _, S3.out.drew, I3.out.skip (keeps_neg (by omega) (by rw [C.out.1, show kp + 1 + (q + 1) - 1 = kp + 1 + q by omega, C.out.2, huv]))⟩
              · rw [decide_eq_false huv] at hq2
                obtain ⟨za, zb, zc, ze, hE3⟩ := four (hk dk[kk]!)
                obtain ⟨⟨c0, c1, c2, c3⟩, f0, f1, f2, f3⟩ := cells4 S3.out R hds kk (by omega) hE3
                have T : Aside (SWK enc 4 w0 blk off (dk.setIfInBounds kk u) (wr.drew.setCells blk (off + kk * 4) [xa, xb, xc, xe])) := by
                  have := SWK.set S3.out hk R.hblk kk (by omega) u
                  rw [EU.out] at this
                  exact this
                have oc := R.h1 u
                rw [EU.out] at oc
                have oa : xa.oneCell' = true := oc xa (by simp)
                have ob : xb.oneCell' = true := oc xb (by simp)
                have od : xc.oneCell' = true := oc xc (by simp)
                have oe : xe.oneCell' = true := oc xe (by simp)
                clear oc
                have ra := fun (W : World) (a : Addr) (m : Mode) => run_store Tryd.prog W a xa m oa
                have rb := fun (W : World) (a : Addr) (m : Mode) => run_store Tryd.prog W a xb m ob
                have rc := fun (W : World) (a : Addr) (m : Mode) => run_store Tryd.prog W a xc m od
                have re := fun (W : World) (a : Addr) (m : Mode) => run_store Tryd.prog W a xe m oe
                clear oa ob od oe
                have jk : (kk : Int) < (d.size : Int) := by omega
                clear hE3
                go_wp2_with fail
                go_region_o
                go_wp2
                clear a0 a1 a2 a3 b0 b1 b2 b3 c0 c1 c2 c3 f0 f1 f2 f3 hq2 hg3
                go_roundg (d.size - (kp + 1 + (q + 1 + 1)))
                case measure => omega
                case rel =>
                  refine ⟨kk + 1, q + 1 + 1, dk.setIfInBounds kk u, by go_num, by go_num, by omega, by omega, Nat.le_refl _, T, ?_⟩
                  have := I3.out.keep hlt2 (keeps_pos (by rw [C.out.1, show kp + 1 + (q + 1) - 1 = kp + 1 + q by omega, C.out.2]; exact huv))
                  rw [C.out.1] at this
                  exact this
            · have hend : kp + 1 + k2 = d.size := by omega
              have hHk := S3.out.holds R.hblk R.hH hds
              have hfl : (enc zr).length = 4 := hk zr
              have hcl : ∀ ty, (Builtin.clear_ #[39] ty #[.slice (some ⟨blk, off + kk * 4, none⟩) (d.size - kk) (cap - kk)]).run Tryd.prog wr = .ok (.tuple #[]) (wr.setCells blk (off + kk * 4) (List.replicate (d.size - kk) (enc zr)).flatten) :=
                fun ty => run_clear_sliceK wr 39 24 ty (.agg (enc zr).toArray) (enc zr) (by kernel_rfl) hz (by simp [Value.cells]) (by omega) (R.h1 zr) blk (off + kk * 4) _ _ (by omega)
                  (fun j hj => by
                    have := (hHk (kk * 4 + j) (by rw [size_flatK, hds]; rw [hfl] at hj; omega)).1
                    rw [show off + kk * 4 + j = off + (kk * 4 + j) by omega, this]; rfl)
                  (fun j hj => by
                    have := (hHk (kk * 4 + j) (by rw [size_flatK, hds]; rw [hfl] at hj; omega)).2
                    rw [show off + kk * 4 + j = off + (kk * 4 + j) by omega]; exact this)
              clear hHk
              have jk : (kk : Int) ≤ (d.size : Int) := by omega
              have T : Aside (SWK enc 4 w0 blk off (fillA zr kk (d.size - kk) dk) (wr.setCells blk (off + kk * 4) (List.replicate (d.size - kk) (enc zr)).flatten)) := SWK.fill S3.out hk R.hblk kk (d.size - kk) (by omega) zr
              go_wp2
              go_ret
              have hI := I3.out
              rw [hend] at hI
              refine ⟨by rw [hI.len]; rfl, fillA zr kk (d.size - kk) dk, T.out, by rw [size_fillA]; exact hds, ?_⟩
              apply List.ext_getElem?
              intro j
              by_cases hj : j < kk
              · rw [List.getElem?_take, if_pos (by rw [hI.len]; exact hj), hI.low j hj]
                have hsz' : j < (fillA zr kk (d.size - kk) dk).size := by rw [size_fillA]; omega
                rw [Array.getElem?_toList, Array.getElem?_eq_getElem hsz', ← getElem!_pos _ j hsz', get_fillA zr kk _ dk j hj]
              · rw [List.getElem?_eq_none (by rw [List.length_take, hI.len]; omega), List.getElem?_eq_none (by rw [hI.len]; omega)]
        · rw [decide_eq_false hdup] at hq
          go_wp2_with fail
          go_region_o
          go_wp2
          go_roundg (d.size - (kp + 1 + 1))
          case measure => omega
          case rel =>
            refine ⟨kp + 1 + 1, by omega, by omega, Nat.le_refl _, by go_num, S1.out.drew, fun j hj => ?_⟩
            by_cases e : j = kp + 1
            · subst e
              exact keeps_pos (by rw [B.out.1, show kp + 1 - 1 = kp by omega, B.out.2]; exact hdup)
            · exact A.out j (by omega)
      · have : k = d.size := by omega
        subst this
        go_wp2
        go_ret
        obtain ⟨e1, e2⟩ := HS.out A.out
        exact ⟨by rw [e1]; rfl, d, S1.out, rfl, e2⟩
end Go.Proofs.YtonjhkefnijlhaaDoor.M
