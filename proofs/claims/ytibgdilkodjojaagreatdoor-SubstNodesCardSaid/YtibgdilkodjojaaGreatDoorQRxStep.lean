import Derived.Test.YtibgdilkodjojaaGreatDoorQRxArr
import Derived.Test.YtibgdilkodjojaaGreatDoorQRxMap
import Derived.Test.YtibgdilkodjojaaGreatDoorQRxEvX
import Derived.Orders
set_option linter.all false
namespace Go.Proofs.YtibgdilkodjojaaGreatDoor.RX
open Go.RowKit
section
variable {P:Program} {F0:Fz} {w0:Pt P} {B:Env} {F:Fz} {M:Mem} {L:Boxes} {w:World} {a:Act} {get:Operand → Option D} {Γ:Nat → Option TI}
theorem evSliceStr {l:List UInt8} {lo hi:Option D} {r:D × List Bool} (h:sliceStr l lo hi = some r) (hc:∀ c ∈ r.2,c = true):boundsOK l.length lo hi ∧ r.1 = .str ((l.drop (lowOf lo)).take (highOf l.length hi - lowOf lo)):=by
 unfold sliceStr at h
 split at h <;> first | (cases h; done) | skip
 ·cases h
  refine ⟨⟨trivial,trivial⟩,?_⟩
  simp [lowOf,highOf]
 ·rename_i k n
  cases h
  have h1:=of_decide_eq_true (hc _ (List.mem_singleton.2 rfl))
  refine ⟨⟨trivial,by simpa [highOf] using h1⟩,?_⟩
  simp only [lowOf,highOf]
  congr 1
  rw [List.take_of_length_le (by simp)]
 ·rename_i k n
  cases h
  have h1:=of_decide_eq_true (hc _ (List.mem_singleton.2 rfl))
  refine ⟨⟨h1,trivial⟩,?_⟩
  simp [lowOf,highOf]
 ·rename_i k n k' n'
  cases h
  have h1:=of_decide_eq_true (hc _ (by simp:decide (0 ≤ n' ∧ n' ≤ (l.length:Int)) ∈ _))
  have h2:=of_decide_eq_true (hc _ (by simp:decide (0 ≤ n ∧ n ≤ n') ∈ _))
  refine ⟨⟨h1,?_⟩,?_⟩
  ·simp only [highOf]; omega
  ·simp [lowOf,highOf]
theorem evSliceRecs {α:Type} {d:α} {enc:α → List D} {l:List α} {lo hi:Option D} {r:D × List Bool} (h:sliceRecs d enc l lo hi = some r) (hc:∀ c ∈ r.2,c = true):boundsOK l.length lo hi ∧ r.1 = .recs d enc ((l.drop (lowOf lo)).take (highOf l.length hi - lowOf lo)):=by
 unfold sliceRecs at h
 split at h <;> first | (cases h; done) | skip
 ·cases h
  refine ⟨⟨trivial,trivial⟩,?_⟩
  simp [lowOf,highOf]
 ·rename_i k n
  cases h
  have h1:=of_decide_eq_true (hc _ (List.mem_singleton.2 rfl))
  refine ⟨⟨trivial,by simpa [highOf] using h1⟩,?_⟩
  simp only [lowOf,highOf]
  congr 1
  rw [List.take_of_length_le (by simp)]
 ·rename_i k n
  cases h
  have h1:=of_decide_eq_true (hc _ (List.mem_singleton.2 rfl))
  refine ⟨⟨h1,trivial⟩,?_⟩
  simp [lowOf,highOf]
 ·rename_i k n k' n'
  cases h
  have h1:=of_decide_eq_true (hc _ (by simp:decide (0 ≤ n' ∧ n' ≤ (l.length:Int)) ∈ _))
  have h2:=of_decide_eq_true (hc _ (by simp:decide (0 ≤ n ∧ n ≤ n') ∈ _))
  refine ⟨⟨h1,?_⟩,?_⟩
  ·simp only [highOf]; omega
  ·simp [lowOf,highOf]
def Reads (get:Operand → Option D) (op:Op) (k:Nat):Prop:=∃ t x off,(op = .load t x ∨ ∃ y,op = .store t x y) ∧ get x = some (.own k off)
theorem evOp0_sound (hΓ:ΓOK P Γ) (hb:Base F0 w0 B F M w) (hR:RowsIn M L) (hg:GetOK F w B a get) {o:Oper} {out:Out} {cs:List Bool} (hL:∀ k t ds,Reads get o.op k → L.lookup k = some (t,ds) → M k t ds) (he:evOp0 Γ L get o.dst o.op = some (out,cs)) (hc:∀ c ∈ cs,c = true):OutOK P F w B M a o out:=by
 generalize ho:o.op = op at he
 unfold evOp0 at he
 split at he
 ·
  rename_i x
  cases hx:get x with
  | none=>rw [hx] at he; cases he
  | some d=>rw [hx] at he; cases he; exact ev_move (hg _ _ hx) (.inl ho)
 ·rename_i x
  cases hx:get x with
  | none=>rw [hx] at he; cases he
  | some d=>rw [hx] at he; cases he; exact ev_move (hg _ _ hx) (.inr ho)
 ·
  rename_i t
  cases ht:Γ t with
  | none=>rw [ht] at he; cases he
  | some ti=>rw [ht] at he; cases he; exact ev_alloc hΓ ht ho
 ·
  rename_i t x
  split at he
  ·rename_i ti α d enc l ht hx
   split at he
   ·cases he; exact ev_boxArr (hg _ _ hx) ho
   ·cases he
  ·rename_i ti d _ ht hx
   split at he
   ·cases he; exact ev_box (hg _ _ hx) ho
   ·cases he
  ·cases he
 ·
  rename_i t parts
  split at he
  ·rename_i ti ps ht hp
   split at he
   ·rename_i fs hk
    cases hf:fillParts (fun i=>(fs[i]?).map fun f=>(f.1,f.2.1)) (ti.zero.map ofValue) ps with
    | none=>rw [hf] at he; cases he
    | some r=>rw [hf] at he; cases he; exact ev_build hΓ ht hg hp ho (by rw [hk]; exact hf)
   ·rename_i n es ea hk
    cases hf:fillParts (fun i=>some (i * es,es)) (ti.zero.map ofValue) ps with
    | none=>rw [hf] at he; cases he
    | some r=>rw [hf] at he; cases he; exact ev_build hΓ ht hg hp ho (by rw [hk]; exact hf)
   ·cases he
  ·cases he
 ·
  rename_i t x
  split at he
  ·rename_i ti k off ht hx
   split at he
   ·rename_i ty ds hl
    cases hp:partOf ti.agg ti.size off ds with
    | none=>rw [hp] at he; cases he
    | some d=>rw [hp] at he; cases he; exact ev_load hΓ hb ht (hg _ _ hx) (hL _ _ _ ⟨t,x,off,.inl ho,hx⟩ hl) hp ho
   ·cases he
  ·rename_i ti ds ht hx
   cases hp:partOf ti.agg ti.size 0 ds with
   | none=>rw [hp] at he; cases he
   | some d=>rw [hp] at he; cases he; exact ev_loadEl hΓ ht (hg _ _ hx) hp ho
  ·rename_i ti k n z off ht hx
   split at he
   ·rename_i mm es ea tt m α dz enc l hk hl
    split at he
    ·rename_i h
     cases he; exact ev_loadArr hΓ hb hR ht hl (hg _ _ hx) h (of_decide_eq_true (hc _ (List.mem_singleton.2 rfl))) ho
    ·cases he
   ·rename_i tt m α dz enc l hl _
    split at he
    ·rename_i hz
     cases hp:partOf ti.agg ti.size off (enc (l[n.toNat]?.getD dz)) with
     | none=>rw [hp] at he; cases he
     | some d=>rw [hp] at he; cases he; exact ev_loadElm hΓ hb hR ht hl (hg _ _ hx) hz hp (of_decide_eq_true (hc _ (List.mem_singleton.2 rfl))) ho
    ·cases he
   ·cases he
  ·cases he
 ·
  rename_i t x y
  split at he
  ·rename_i ti k n z off d ht hx hy
   split at he
   ·split at he
    ·rename_i h
     cases he; exact ev_fill hΓ hb ht (hg _ _ hx) (hg _ _ hy) h ho
    ·cases he
   ·rename_i tt α dz enc l _ hl
    split at he
    ·rename_i h
     cases he; exact ev_storeElm hΓ hb hR ht (hg _ _ hx) (hg _ _ hy) h.1 h.2 ho
    ·cases he
   ·cases he
  ·rename_i ti k off α d enc l ht hx hy
   split at he
   ·rename_i m es ea ty ds hk hl
    split at he
    ·rename_i h
     cases he; exact ev_turn hΓ hb ht (hg _ _ hx) (hg _ _ hy) (hL _ _ _ ⟨t,x,off,.inr ⟨y,ho⟩,hx⟩ hl) h ho
    ·cases he
   ·cases he
  ·rename_i ti k off d _ ht hx hy
   split at he
   ·rename_i ty ds hl
    split at he
    ·rename_i h
     cases he; exact ev_store hΓ hb ht (hg _ _ hx) (hg _ _ hy) (hL _ _ _ ⟨t,x,off,.inr ⟨y,ho⟩,hx⟩ hl) h.1 h.2 ho
    ·cases he
   ·cases he
  ·cases he
 ·
  rename_i x
  split at he
  ·rename_i hx; cases he; exact ev_nilCheck (hg _ _ hx) (.inl ⟨_,_,rfl⟩) ho
  ·rename_i hx; cases he; exact ev_nilCheck (hg _ _ hx) (.inr (.inl ⟨_,rfl⟩)) ho
  ·rename_i hx; cases he; exact ev_nilCheck (hg _ _ hx) (.inr (.inr (.inl ⟨_,_,rfl⟩))) ho
  ·rename_i hx; cases he; exact ev_nilCheck (hg _ _ hx) (.inr (.inr (.inr ⟨_,_,_,_,rfl⟩))) ho
  ·cases he; exact absurd (hc false (by simp)) (by decide)
  ·cases he
 ·
  rename_i bop t x y yt
  split at he
  ·rename_i p q hx hy
   split at he
   ·rename_i ti ht
    split at he
    ·cases he
    ·rename_i hq
     obtain ⟨r,hcc,he⟩:=Option.map_eq_some_iff.1 he
     cases he; exact ev_binAgg hΓ ht hq (hg _ _ hx) (hg _ _ hy) hcc (.inl ⟨rfl,rfl⟩) ho
   ·rename_i ti ht
    split at he
    ·cases he
    ·rename_i hq
     obtain ⟨r,hcc,he⟩:=Option.map_eq_some_iff.1 he
     cases he; exact ev_binAgg hΓ ht hq (hg _ _ hx) (hg _ _ hy) hcc (.inr ⟨rfl,rfl⟩) ho
   ·cases he
  ·rename_i hx hy
   split at he
   ·rename_i ti ht
    split at he
    ·cases he
    ·rename_i hq
     cases he; exact ev_eqArr hΓ ht hq (hg _ _ hx) (hg _ _ hy) (.inl ⟨rfl,rfl⟩) ho
   ·rename_i ti ht
    split at he
    ·cases he
    ·rename_i hq
     cases he; exact ev_eqArr hΓ ht hq (hg _ _ hx) (hg _ _ hy) (.inr ⟨rfl,rfl⟩) ho
   ·cases he
  ·rename_i p q hx hy
   split at he
   ·rename_i ti ht
    split at he
    ·rename_i hk; cases he; exact ev_binBool hΓ ht hk (hg _ _ hx) (hg _ _ hy) (.inl ⟨rfl,rfl⟩) ho
    ·rename_i hk; cases he; exact ev_binBool hΓ ht hk (hg _ _ hx) (hg _ _ hy) (.inr ⟨rfl,rfl⟩) ho
    ·cases he
   ·cases he
  ·rename_i dx dy _ _ _ hx hy
   cases hr:binD bop dx dy with
   | none=>rw [hr] at he; cases he
   | some r=>rw [hr] at he; cases he; exact ev_bin (hg _ _ hx) (hg _ _ hy) hr hc ho
  ·cases he
 ·
  rename_i uop t x
  split at he
  ·rename_i dx hx
   cases hr:unD uop dx with
   | none=>rw [hr] at he; cases he
   | some r=>rw [hr] at he; cases he; exact ev_un (hg _ _ hx) hr ho
  ·cases he
 ·
  rename_i s t x
  split at he
  ·rename_i si ti k n hs ht hx
   split at he
   ·rename_i k' k'' hk hk'
    cases he; exact ev_convInt hΓ hs ht (hg _ _ hx) hk hk' ho
   ·cases he
  ·rename_i si ti l hs ht hx
   split at he
   ·rename_i hk hk'
    cases he; exact ev_convStr hΓ hs ht (hg _ _ hx) hk hk' ho
   ·rename_i ea hk hk'
    split at he
    ·rename_i h
     cases he; exact ev_bytesOf hΓ hs ht (hg _ _ hx) hk hk' h.1 h.2 (of_decide_eq_true (hc _ (List.mem_singleton.2 rfl))) ho _
    ·cases he
   ·cases he
  ·rename_i si ti hs ht hx
   split at he
   ·rename_i es ea hk hk'
    split at he
    ·rename_i h
     cases he; exact ev_strNil hΓ hs ht (hg _ _ hx) hk hk' h ho
    ·cases he
   ·cases he
  ·rename_i si ti d _ _ _ hs ht hx
   split at he
   ·rename_i ea hk hk'
    split at he
    ·rename_i h
     cases hcc:contentOf 1 L d with
     | none=>rw [hcc] at he; cases he
     | some c =>
      rw [hcc] at he
      obtain ⟨cs',n⟩:=c
      cases he; exact ev_strOf hΓ hb hR hs ht (hg _ _ hx) hk hk' h hcc ho
    ·cases he
   ·cases he
  ·cases he
 ·
  rename_i t len parts
  split at he
  ·rename_i ti ps ht hp
   split at he
   ·rename_i es ea hk
    split at he
    ·rename_i cs' hf
     split at he
     ·rename_i h
      cases he; exact ev_buildSlice hΓ hb hR ht hk hg hp hf h.1 h.2.1 h.2.2.1 h.2.2.2 ho _
     ·cases he
    ·cases he
   ·cases he
  ·cases he
 ·
  rename_i t x y
  split at he
  ·rename_i ti k n k' c ht hx hy
   split at he
   ·rename_i es ea hk
    split at he
    ·rename_i h
     cases he
     exact ev_make hΓ ht hk (hg _ _ hx) (hg _ _ hy) h.1 h.2 (of_decide_eq_true (hc _ List.mem_cons_self)) (of_decide_eq_true (hc _ (List.mem_cons_of_mem _ (List.mem_singleton.2 rfl)))) ho _
    ·cases he
   ·cases he
  ·cases he
 ·
  rename_i t x lo hi
  split at he
  ·rename_i ti l dlo dhi ht hx hlo hhi
   split at he
   ·rename_i hk
    cases hr:sliceStr l dlo dhi with
    | none=>rw [hr] at he; cases he
    | some r =>
     rw [hr] at he; cases he
     obtain ⟨h1,h2⟩:=evSliceStr hr hc
     rw [h2]
     exact ev_sliceStr hΓ ht hg (hg _ _ hx) hlo hhi hk h1 ho
   ·cases he
  ·rename_i ti α dz enc l dlo dhi ht hx hlo hhi
   split at he
   ·rename_i es ea hk
    split at he
    ·rename_i hlen
     cases hr:sliceRecs dz enc l dlo dhi with
     | none=>rw [hr] at he; cases he
     | some r =>
      rw [hr] at he; cases he
      obtain ⟨h1,h2⟩:=evSliceRecs hr hc
      rw [h2]
      exact ev_sliceRecs hΓ ht hg (hg _ _ hx) hlo hhi hk hlen h1 ho
    ·cases he
   ·cases he
  ·rename_i ti k n z off dlo dhi ht hx hlo hhi
   split at he
   ·rename_i m es ea tt α dz enc l hk hl
    split at he
    ·rename_i hlen
     cases hr:sliceRecs dz enc l dlo dhi with
     | none=>rw [hr] at he; cases he
     | some r =>
      rw [hr] at he; cases he
      obtain ⟨h1,h2⟩:=evSliceRecs hr fun c h=>hc c (List.mem_cons_of_mem _ h)
      rw [h2]
      exact ev_sliceArr hΓ hb hR ht hl hg (hg _ _ hx) hlo hhi hk hlen (of_decide_eq_true (hc _ List.mem_cons_self)) h1 ho
    ·cases he
   ·cases he
  ·rename_i ti k dlo dhi ht hx hlo hhi
   split at he
   ·rename_i es ea tt α dz enc l hk hl
    split at he
    ·rename_i hlen
     cases hr:sliceRecs dz enc l dlo dhi with
     | none=>rw [hr] at he; cases he
     | some r =>
      rw [hr] at he; cases he
      obtain ⟨h1,h2⟩:=evSliceRecs hr hc
      rw [h2]
      exact ev_sliceRecs hΓ ht hg ((hg _ _ hx).sealRow hb (hR _ _ _ _ _ _ _ hl)) hlo hhi hk hlen h1 ho
    ·cases he
   ·cases he
  ·cases he
 ·
  rename_i t x f
  split at he
  ·rename_i ti k off ht hx
   split at he
   ·rename_i fs hk
    cases hf:fs[f]? with
    | none=>rw [hf] at he; cases he
    | some g =>
     rw [hf] at he
     simp only [Option.bind] at he
     split at he
     ·cases he
     ·rename_i h0; cases he; exact ev_fieldAddr hΓ ht (hg _ _ hx) hk hf h0 (.inl ⟨_,_,rfl,rfl⟩) ho
   ·cases he
  ·rename_i ti ds ht hx
   split at he
   ·rename_i fs hk
    cases hf:fs[f]? with
    | none=>rw [hf] at he; cases he
    | some g =>
     rw [hf] at he
     simp only [Option.bind] at he
     split at he
     ·cases he
     ·rename_i h0; cases he; exact ev_fieldAddr hΓ ht (hg _ _ hx) hk hf h0 (.inr (.inl ⟨_,rfl,rfl⟩)) ho
   ·cases he
  ·rename_i ti k n z off ht hx
   split at he
   ·rename_i fs hk
    cases hf:fs[f]? with
    | none=>rw [hf] at he; cases he
    | some g =>
     rw [hf] at he
     simp only [Option.bind] at he
     split at he
     ·cases he
     ·rename_i h0; cases he; exact ev_fieldAddr hΓ ht (hg _ _ hx) hk hf h0 (.inr (.inr ⟨_,_,_,_,rfl,rfl⟩)) ho
   ·cases he
  ·cases he
 ·
  rename_i t x f
  split at he
  ·rename_i ti ds ht hx
   split at he
   ·rename_i fs hk
    cases hf:fs[f]? with
    | none=>rw [hf] at he; cases he
    | some g =>
     rw [hf] at he
     simp only [Option.bind] at he
     cases hp:partOf g.2.2 g.2.1 g.1 ds with
     | none=>rw [hp] at he; cases he
     | some d=>rw [hp] at he; cases he; exact ev_field hΓ ht (hg _ _ hx) hk hf hp ho
   ·cases he
  ·cases he
 ·
  rename_i t x i
  split at he
  ·rename_i ti α dz enc l k n ht hx hi
   split at he
   ·rename_i es ea hk
    split at he
    ·rename_i hlen
     cases he
     exact ev_indexRecs hΓ ht (hg _ _ hx) (hg _ _ hi) hk hlen (of_decide_eq_true (hc _ (List.mem_singleton.2 rfl))) ho
    ·cases he
   ·cases he
  ·rename_i ti k kk n ht hx hi
   split at he
   ·rename_i es ea tt α m dz enc l hk hl
    split at he
    ·rename_i hlen
     cases he
     exact ev_indexRow hΓ hb hR ht hl (hg _ _ hx) (hg _ _ hi) hk (of_decide_eq_true (hc _ (List.mem_singleton.2 rfl))) ho
    ·cases he
   ·cases he
  ·rename_i ti key n0 z off k n ht hx hi
   split at he
   ·rename_i m es ea hk
    split at he
    ·rename_i h
     cases he
     exact ev_indexElm hΓ ht (hg _ _ hx) (hg _ _ hi) hk h (of_decide_eq_true (hc _ (List.mem_singleton.2 rfl))) ho
    ·cases he
   ·cases he
  ·rename_i ti key off k n ht hx hi
   split at he
   ·rename_i m es ea hk
    split at he
    ·cases he
     exact ev_indexOwn hΓ ht (hg _ _ hx) (hg _ _ hi) hk (of_decide_eq_true (hc _ (List.mem_singleton.2 rfl))) ho
    ·cases he
   ·cases he
  ·cases he
 ·
  rename_i t x i
  split at he
  ·rename_i ti l k n ht hx hi
   split at he
   ·rename_i hk
    cases he
    exact ev_indexStr hΓ ht (hg _ _ hx) (hg _ _ hi) hk (of_decide_eq_true (hc _ (List.mem_singleton.2 rfl))) ho
   ·cases he
  ·rename_i ti α dz enc l k n ht hx hi
   split at he
   ·rename_i m es ea hk
    split at he
    ·rename_i hes
     cases hp:partOf ea es 0 (enc (l[n.toNat]?.getD dz)) with
     | none=>rw [hp] at he; cases he
     | some d =>
      rw [hp] at he; cases he
      exact ev_indexArrV hΓ ht (hg _ _ hx) (hg _ _ hi) hk hes hp (of_decide_eq_true (hc _ List.mem_cons_self)) (of_decide_eq_true (hc _ (List.mem_cons_of_mem _ (List.mem_singleton.2 rfl)))) ho
    ·cases he
   ·cases he
  ·rename_i ti ds k n ht hx hi
   split at he
   ·rename_i m es ea hk
    cases hp:partOf ea es (n.toNat * es) ds with
    | none=>rw [hp] at he; cases he
    | some d =>
     rw [hp] at he; cases he
     exact ev_indexArr hΓ ht (hg _ _ hx) (hg _ _ hi) hk hp (of_decide_eq_true (hc _ (List.mem_singleton.2 rfl))) ho
   ·cases he
  ·cases he
 ·
  rename_i f first cap
  split at he
  ·rename_i hf
   cases hr:getAll get cap.toList with
   | none=>rw [hr] at he; cases he
   | some ds=>rw [hr] at he; cases he; exact ev_makeFunc hg hf hr ho
  ·cases he
 ·
  rename_i x i
  split at he
  ·rename_i ds hx
   cases hd:ds[i]? with
   | none=>rw [hd] at he; cases he
   | some d=>rw [hd] at he; cases he; exact ev_extract (hg _ _ hx) hd ho
  ·cases he
 ·
  rename_i c
  cases out with
  | call f args=>exact ev_call hb hR hg he ho
  | val d =>
   unfold evCall at he
   split at he <;> first | (cases he; done) | skip
   ·split at he <;> cases he
   ·split at he
    ·rename_i t t' hat
     cases ht:Γ t with
     | none=>rw [ht] at he; cases he
     | some ti =>
      cases ht':Γ t' with
      | none=>rw [ht,ht'] at he; cases he
      | some ti' =>
       rw [ht,ht'] at he
       simp only [Option.bind] at he
       split at he
       ·split at he
        ·simp only [Option.map] at he; split at he <;> cases he
        ·cases he
       ·split at he
        ·simp only [Option.map] at he; split at he <;> cases he
        ·cases he
       ·cases he
    ·cases he
   ·rename_i k hcal ha
    split at he
    ·rename_i t hat
     cases ht:Γ t with
     | none=>rw [ht] at he; cases he
     | some ti =>
      rw [ht] at he
      simp only [Option.bind] at he
      split at he
      ·rename_i hk hl; cases he; exact ev_lenRow hΓ hb hR ht hk hat hl hcal hg ha ho
      ·cases he
    ·cases he
   ·exfalso
    repeat' (first | (cases he; done) | (simp only [Option.bind,Option.map] at he) | split at he)
   ·rename_i l hcal ha
    split at he
    ·rename_i t hat
     cases ht:Γ t with
     | none=>rw [ht] at he; cases he
     | some ti =>
      rw [ht] at he
      simp only [Option.bind] at he
      split at he
      ·rename_i hk; cases he; exact ev_lenStr hΓ ht hk hat hcal hg ha ho
      ·cases he
    ·cases he
   ·rename_i α dz enc l hcal ha
    split at he
    ·rename_i t hat
     cases ht:Γ t with
     | none=>rw [ht] at he; cases he
     | some ti =>
      rw [ht] at he
      simp only [Option.bind] at he
      split at he
      ·rename_i hk; cases he; exact ev_lenRecs hΓ ht hk hat hcal hg ha ho
      ·cases he
    ·cases he
   ·rename_i hcal ha; cases he; exact ev_min hcal hg ha ho
   ·rename_i hcal ha; cases he; exact ev_max hcal hg ha ho
  | box t cells =>
   exfalso
   unfold evCall at he
   repeat' (first | (cases he; done) | (simp only [Option.bind,Option.map] at he) | split at he)
  | store k off cells =>
   exfalso
   unfold evCall at he
   repeat' (first | (cases he; done) | (simp only [Option.bind,Option.map] at he) | split at he)
  | upd k n z off cells =>
   exfalso
   unfold evCall at he
   repeat' (first | (cases he; done) | (simp only [Option.bind,Option.map] at he) | split at he)
  | known spec =>
   exfalso
   unfold evCall at he
   repeat' (first | (cases he; done) | (simp only [Option.bind,Option.map] at he) | split at he)
  | arow t z m d =>
   exfalso
   unfold evCall at he
   repeat' (first | (cases he; done) | (simp only [Option.bind,Option.map] at he) | split at he)
  | fill k z m d =>
   exfalso
   unfold evCall at he
   repeat' (first | (cases he; done) | (simp only [Option.bind,Option.map] at he) | split at he)
  | turn k z m d =>
   exfalso
   unfold evCall at he
   repeat' (first | (cases he; done) | (simp only [Option.bind,Option.map] at he) | split at he)
  | mkmap t kk ag =>
   exfalso
   unfold evCall at he
   repeat' (first | (cases he; done) | (simp only [Option.bind,Option.map] at he) | split at he)
  | mset k kk ag key cells =>
   exfalso
   unfold evCall at he
   repeat' (first | (cases he; done) | (simp only [Option.bind,Option.map] at he) | split at he)
  | mlk k kk ag key ok ez =>
   exfalso
   unfold evCall at he
   repeat' (first | (cases he; done) | (simp only [Option.bind,Option.map] at he) | split at he)
  | mdl k kk ag key =>
   exfalso
   unfold evCall at he
   repeat' (first | (cases he; done) | (simp only [Option.bind,Option.map] at he) | split at he)
  | cpy k z cells n =>
   exfalso
   unfold evCall at he
   repeat' (first | (cases he; done) | (simp only [Option.bind,Option.map] at he) | split at he)
  | mlen k =>
   unfold evCall at he
   split at he <;> first | (cases he; done) | skip
   all_goals first
    | (exfalso; (repeat' (first | (cases he; done) | (simp only [Option.bind,Option.map] at he) | split at he)); done)
    | skip
   rename_i k' hcal ha
   split at he
   ·rename_i t hat
    cases ht:Γ t with
    | none=>rw [ht] at he; cases he
    | some ti =>
     rw [ht] at he
     simp only [Option.bind] at he
     split at he
     ·rename_i hk; cases he; exact ev_lenMap hΓ hb ht hk hat hcal hg ha ho
     ·cases he
   ·cases he
  | row e m old spec =>
   unfold evCall at he
   split at he <;> first | (cases he; done) | skip
   ·split at he <;> cases he
   ·rename_i s x hcal ha
    split at he
    ·rename_i t t' hat
     cases ht:Γ t with
     | none=>rw [ht] at he; cases he
     | some ti =>
      cases ht':Γ t' with
      | none=>rw [ht,ht'] at he; cases he
      | some ti' =>
       rw [ht,ht'] at he
       simp only [Option.bind] at he
       split at he
       ·rename_i es ea es' ea' hk hk'
        split at he
        ·rename_i h
         cases hr:appSpec es ti.elt L s x with
         | none=>rw [hr] at he; cases he
         | some r =>
          obtain ⟨old',m',N,spec'⟩:=r
          rw [hr] at he
          cases he
          exact ev_append hΓ hb hR hcal hat ht ht' hk (.inl ⟨_,_,hk'⟩) hg ha hr (of_decide_eq_true (hc _ (List.mem_singleton.2 rfl))) h.2.1 h.2.2 ho
        ·cases he
       ·rename_i es ea hk hk'
        split at he
        ·rename_i h
         cases hr:appSpec es ti.elt L s x with
         | none=>rw [hr] at he; cases he
         | some r =>
          obtain ⟨old',m',N,spec'⟩:=r
          rw [hr] at he
          cases he
          exact ev_append hΓ hb hR hcal hat ht ht' hk (.inr hk') hg ha hr (of_decide_eq_true (hc _ (List.mem_singleton.2 rfl))) h.1 h.2 ho
        ·cases he
       ·cases he
    ·cases he
   all_goals (exfalso; (repeat' (first | (cases he; done) | (simp only [Option.bind,Option.map] at he) | split at he)))
 ·
  rename_i t
  cases ht:Γ t with
  | none=>rw [ht] at he; cases he
  | some ti =>
   rw [ht] at he
   simp only [Option.bind] at he
   split at he
   ·cases he; exact ev_mkmap ho
   ·cases he
 ·
  rename_i t x y ok
  split at he
  ·rename_i ti k dy ht hx hy
   split at he
   ·rename_i kk es ag hk
    split at he
    ·rename_i h
     cases hkey:mkOf kk dy with
     | none=>rw [hkey] at he; cases he
     | some key =>
      rw [hkey] at he
      cases he
      exact ev_lookup hΓ hb ht hk (hg _ _ hx) (hg _ _ hy) hkey h.1 h.2 ho
    ·cases he
   ·cases he
  ·cases he
 ·
  rename_i t x y z
  split at he
  ·rename_i ti k dy dz ht hx hy hz
   split at he
   ·rename_i kk es ag hk
    split at he
    ·rename_i ag' cs' hcs
     split at he
     ·rename_i h
      cases hkey:mkOf kk dy with
      | none=>rw [hkey] at he; cases he
      | some key =>
       rw [hkey] at he
       cases he
       exact ev_mset hΓ hb hR ht hk (hg _ _ hx) (hg _ _ hy) hkey (hg _ _ hz) (by rw [hcs,h.2]) ho
     ·cases he
    ·cases he
   ·cases he
  ·cases he
 ·cases he
theorem opn_own {d:D} {k off:Nat} (h:d.opn = .own k off):d = .own k off:=by
 cases d <;> first | exact h | (simp [D.opn] at h)
theorem evOp_sound (hΓ:ΓOK P Γ) (hb:Base F0 w0 B F M w) (hR:RowsIn M L) (hg:GetOK F w B a get) {o:Oper} {out:Out} {cs:List Bool} (hL:∀ k t ds,Reads get o.op k → L.lookup k = some (t,ds) → M k t ds) (he:evOp Γ L get o.dst o.op = some (out,cs)) (hc:∀ c ∈ cs,c = true):OutOK P F w B M a o out:=by
 unfold evOp at he
 split at he
 ·rename_i out' hx
  cases he
  exact evX_sound hΓ hb hR hg hx
 refine evOp0_sound hΓ hb hR (get:=fun x=>(get x).map D.opn) (fun x d hx=>?_) (fun k t ds hr=>hL k t ds ?_) he hc
 ·obtain ⟨d',h1,rfl⟩:=Option.map_eq_some_iff.1 hx
  exact (hg x d' h1).opn
 ·obtain ⟨t,x,off,h1,h2⟩:=hr
  obtain ⟨d',h3,h4⟩:=Option.map_eq_some_iff.1 h2
  exact ⟨t,x,off,h1,by rw [h3,opn_own h4]⟩
end
end Go.Proofs.YtibgdilkodjojaaGreatDoor.RX
