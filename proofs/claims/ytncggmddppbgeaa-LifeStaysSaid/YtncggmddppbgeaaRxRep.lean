/-
  What abstract data says of a value in a world, and how it is kept while the world grows. No program in sight.
-/
import Derived.Test.YtncggmddppbgeaaRxDef
import Derived.Lib.Strings
namespace Go.Proofs.Ytncggmddppbgeaa.RX
open Go.RowKit

abbrev Fz := Nat → Nat → Prop
def NB : Nat → Option Nat := fun _ => none

mutual
inductive Rep (F : Fz) (w : World) : (Nat → Option Nat) → D → Value → Prop
  | val {B} (v : Value) (hv : flatV v = true) : Rep F w B (.val v) v
  | str {B} (l : List UInt8) : Rep F w B (.str l) (.string ⟨l.toArray⟩)
  | own {B} (i off b : Nat) (h : B i = some b) : Rep F w B (.own i off) (.pointer (some ⟨b, off, none⟩))
  | agg {B} (ds : List D) (vs : List Value) (h : RepL F w B ds vs) : Rep F w B (.agg ds) (.agg vs.toArray)
  | tup {B} (ds : List D) (vs : List Value) (h : RepL F w B ds vs) : Rep F w B (.tup ds) (.tuple vs.toArray)
  | recsNil {B} {α : Type} (d : α) (enc : α → List D) (p : Option Addr) : Rep F w B (.recs d enc []) (.slice p 0 0)
  | recs {B} {α : Type} (d : α) (enc : α → List D) (l : List α) (g off cap size : Nat) (vs : Nat → List Value) (hz : size = (enc d).length)
      (h1 : ∀ i, i < l.length → (vs i).length = size)
      (h2 : ∀ i, i < l.length → RepL F w NB (enc (l[i]?.getD d)) (vs i))
      (h3 : ∀ i j, i < l.length → j < size → F g (off + i * size + j) ∧ w.cell? ⟨g, off + i * size + j, none⟩ = (vs i)[j]?)
      (hc : l.length ≤ cap) : Rep F w B (.recs d enc l) (.slice (some ⟨g, off, none⟩) l.length cap)
  | el {B} (ds : List D) (vs : List Value) (g off : Nat) (h : RepL F w NB ds vs)
      (h2 : ∀ j, j < vs.length → F g (off + j) ∧ w.cell? ⟨g, off + j, none⟩ = vs[j]?) : Rep F w B (.el ds) (.pointer (some ⟨g, off, none⟩))
  | fn {B} (f : Nat) (ds : List D) (vs : List Value) (h : RepL F w B ds vs) : Rep F w B (.fn f ds) (.func (.func f) #[] vs.toArray)
inductive RepL (F : Fz) (w : World) : (Nat → Option Nat) → List D → List Value → Prop
  | nil {B} : RepL F w B [] []
  | cons {B} (d : D) (v : Value) (ds : List D) (vs : List Value) (h : Rep F w B d v) (hs : RepL F w B ds vs) : RepL F w B (d :: ds) (v :: vs)
end

/-- Frozen cells are as they were; what was frozen is frozen. -/
structure Grow (F F' : Fz) (w w' : World) : Prop where
  frz : ∀ g k, F g k → F' g k
  cell : ∀ g k, F g k → w'.cell? ⟨g, k, none⟩ = w.cell? ⟨g, k, none⟩

theorem Grow.refl (F : Fz) (w : World) : Grow F F w w := ⟨fun _ _ h => h, fun _ _ _ => rfl⟩

mutual
theorem Rep.grow {F F' : Fz} {w w' : World} (g : Grow F F' w w') : ∀ {B d v}, Rep F w B d v → Rep F' w' B d v
  | _, _, _, .val v hv => .val v hv
  | _, _, _, .str l => .str l
  | _, _, _, .own i off b h => .own i off b h
  | _, _, _, .agg ds vs h => .agg ds vs (RepL.grow g h)
  | _, _, _, .tup ds vs h => .tup ds vs (RepL.grow g h)
  | _, _, _, .recsNil d enc p => .recsNil d enc p
  | _, _, _, .recs d enc l gb off cap size vs hz h1 h2 h3 hc =>
    .recs d enc l gb off cap size vs hz h1 (fun i hi => RepL.grow g (h2 i hi))
      (fun i j hi hj => ⟨g.frz _ _ (h3 i j hi hj).1, (g.cell _ _ (h3 i j hi hj).1).trans (h3 i j hi hj).2⟩) hc
  | _, _, _, .el ds vs gb off h h2 => .el ds vs gb off (RepL.grow g h) (fun j hj => ⟨g.frz _ _ (h2 j hj).1, (g.cell _ _ (h2 j hj).1).trans (h2 j hj).2⟩)
  | _, _, _, .fn f ds vs h => .fn f ds vs (RepL.grow g h)
theorem RepL.grow {F F' : Fz} {w w' : World} (g : Grow F F' w w') : ∀ {B ds vs}, RepL F w B ds vs → RepL F' w' B ds vs
  | _, _, _, .nil => .nil
  | _, _, _, .cons d v ds vs h hs => .cons d v ds vs (Rep.grow g h) (RepL.grow g hs)
end

mutual
/-- Another place for the boxes: what names none of those that differ is as it was. -/
theorem Rep.rebox {F : Fz} {w : World} {B B' : Nat → Option Nat} (k : Nat) (hB : ∀ i, i ≠ k → B' i = B i) : ∀ {d v}, Rep F w B d v → D.names k d = false → Rep F w B' d v
  | _, _, .val v hv, _ => .val v hv
  | _, _, .str l, _ => .str l
  | _, _, .own i off b h, hn => .own i off b (by
      rw [hB i (by intro e; subst e; simp [D.names] at hn)]; exact h)
  | _, _, .agg ds vs h, hn => .agg ds vs (RepL.rebox k hB h hn)
  | _, _, .tup ds vs h, hn => .tup ds vs (RepL.rebox k hB h hn)
  | _, _, .recsNil d enc p, _ => .recsNil d enc p
  | _, _, .recs d enc l gb off cap size vs hz h1 h2 h3 hc, _ => .recs d enc l gb off cap size vs hz h1 h2 h3 hc
  | _, _, .el ds vs gb off h h2, _ => .el ds vs gb off h h2
  | _, _, .fn f ds vs h, hn => .fn f ds vs (RepL.rebox k hB h hn)
theorem RepL.rebox {F : Fz} {w : World} {B B' : Nat → Option Nat} (k : Nat) (hB : ∀ i, i ≠ k → B' i = B i) : ∀ {ds vs}, RepL F w B ds vs → D.namess k ds = false → RepL F w B' ds vs
  | _, _, .nil, _ => .nil
  | _, _, .cons d v ds vs h hs, hn => by
    have hn' : D.names k d = false ∧ D.namess k ds = false := by simpa [D.namess] using hn
    exact .cons d v ds vs (Rep.rebox k hB h hn'.1) (RepL.rebox k hB hs hn'.2)
end

mutual
/-- What names no box is as well without any. -/
theorem Rep.bare {F : Fz} {w : World} {B B' : Nat → Option Nat} : ∀ {d v}, Rep F w B d v → D.noOwn d = true → Rep F w B' d v
  | _, _, .val v hv, _ => .val v hv
  | _, _, .str l, _ => .str l
  | _, _, .own i off b h, hn => by simp [D.noOwn] at hn
  | _, _, .agg ds vs h, hn => .agg ds vs (RepL.bare h hn)
  | _, _, .tup ds vs h, hn => .tup ds vs (RepL.bare h hn)
  | _, _, .recsNil d enc p, _ => .recsNil d enc p
  | _, _, .recs d enc l gb off cap size vs hz h1 h2 h3 hc, _ => .recs d enc l gb off cap size vs hz h1 h2 h3 hc
  | _, _, .el ds vs gb off h h2, _ => .el ds vs gb off h h2
  | _, _, .fn f ds vs h, hn => .fn f ds vs (RepL.bare h hn)
theorem RepL.bare {F : Fz} {w : World} {B B' : Nat → Option Nat} : ∀ {ds vs}, RepL F w B ds vs → D.noOwns ds = true → RepL F w B' ds vs
  | _, _, .nil, _ => .nil
  | _, _, .cons d v ds vs h hs, hn => by
    have hn' : D.noOwn d = true ∧ D.noOwns ds = true := by simpa [D.noOwns] using hn
    exact .cons d v ds vs (Rep.bare h hn'.1) (RepL.bare hs hn'.2)
end

mutual
/-- More boxes do no harm. -/
theorem Rep.extB {F : Fz} {w : World} {B B' : Nat → Option Nat} (hB : ∀ i b, B i = some b → B' i = some b) : ∀ {d v}, Rep F w B d v → Rep F w B' d v
  | _, _, .val v hv => .val v hv
  | _, _, .str l => .str l
  | _, _, .own i off b h => .own i off b (hB i b h)
  | _, _, .agg ds vs h => .agg ds vs (RepL.extB hB h)
  | _, _, .tup ds vs h => .tup ds vs (RepL.extB hB h)
  | _, _, .recsNil d enc p => .recsNil d enc p
  | _, _, .recs d enc l gb off cap size vs hz h1 h2 h3 hc => .recs d enc l gb off cap size vs hz h1 h2 h3 hc
  | _, _, .el ds vs gb off h h2 => .el ds vs gb off h h2
  | _, _, .fn f ds vs h => .fn f ds vs (RepL.extB hB h)
theorem RepL.extB {F : Fz} {w : World} {B B' : Nat → Option Nat} (hB : ∀ i b, B i = some b → B' i = some b) : ∀ {ds vs}, RepL F w B ds vs → RepL F w B' ds vs
  | _, _, .nil => .nil
  | _, _, .cons d v ds vs h hs => .cons d v ds vs (Rep.extB hB h) (RepL.extB hB hs)
end

mutual
/-- What holds without boxes holds with any. -/
theorem Rep.lift {F : Fz} {w : World} {B B' : Nat → Option Nat} (hB : ∀ i, B i = none) : ∀ {d v}, Rep F w B d v → Rep F w B' d v
  | _, _, .val v hv => .val v hv
  | _, _, .str l => .str l
  | _, _, .own i off b h => by rw [hB] at h; cases h
  | _, _, .agg ds vs h => .agg ds vs (RepL.lift hB h)
  | _, _, .tup ds vs h => .tup ds vs (RepL.lift hB h)
  | _, _, .recsNil d enc p => .recsNil d enc p
  | _, _, .recs d enc l gb off cap size vs hz h1 h2 h3 hc => .recs d enc l gb off cap size vs hz h1 h2 h3 hc
  | _, _, .el ds vs gb off h h2 => .el ds vs gb off h h2
  | _, _, .fn f ds vs h => .fn f ds vs (RepL.lift hB h)
theorem RepL.lift {F : Fz} {w : World} {B B' : Nat → Option Nat} (hB : ∀ i, B i = none) : ∀ {ds vs}, RepL F w B ds vs → RepL F w B' ds vs
  | _, _, .nil => .nil
  | _, _, .cons d v ds vs h hs => .cons d v ds vs (Rep.lift hB h) (RepL.lift hB hs)
end

theorem RepL.length {F : Fz} {w : World} : ∀ {B ds vs}, RepL F w B ds vs → vs.length = ds.length
  | _, _, _, .nil => rfl
  | _, _, _, .cons _ _ _ _ _ hs => by simp [RepL.length hs]
theorem RepL.get {F : Fz} {w : World} {B} : ∀ {ds vs} (i : Nat) {d : D}, RepL F w B ds vs → ds[i]? = some d → ∃ v, vs[i]? = some v ∧ Rep F w B d v
  | _, _, i, d, .nil, h => by simp at h
  | _, _, 0, d, .cons d' v ds vs h hs, he => by simp at he; subst he; exact ⟨v, rfl, h⟩
  | _, _, i + 1, d, .cons d' v ds vs h hs, he => by
    have := RepL.get i hs (by simpa using he)
    simpa using this
theorem RepL.append {F : Fz} {w : World} {B} : ∀ {ds vs ds' vs'}, RepL F w B ds vs → RepL F w B ds' vs' → RepL F w B (ds ++ ds') (vs ++ vs')
  | _, _, _, _, .nil, h => h
  | _, _, _, _, .cons d v ds vs h hs, h' => .cons d v _ _ h (RepL.append hs h')
theorem RepL.drop {F : Fz} {w : World} {B} : ∀ (n : Nat) {ds vs}, RepL F w B ds vs → RepL F w B (ds.drop n) (vs.drop n)
  | 0, _, _, h => h
  | _ + 1, _, _, .nil => .nil
  | n + 1, _, _, .cons d v ds vs h hs => RepL.drop n hs
theorem RepL.take {F : Fz} {w : World} {B} : ∀ (n : Nat) {ds vs}, RepL F w B ds vs → RepL F w B (ds.take n) (vs.take n)
  | 0, _, _, _ => .nil
  | _ + 1, _, _, .nil => .nil
  | n + 1, _, _, .cons d v ds vs h hs => .cons d v _ _ h (RepL.take n hs)
theorem RepL.set {F : Fz} {w : World} {B} {d : D} {v : Value} (hd : Rep F w B d v) : ∀ (i : Nat) {ds vs}, RepL F w B ds vs → RepL F w B (ds.set i d) (vs.set i v)
  | _, _, _, .nil => .nil
  | 0, _, _, .cons d' v' ds vs h hs => .cons d v _ _ hd hs
  | i + 1, _, _, .cons d' v' ds vs h hs => .cons d' v' _ _ h (RepL.set hd i hs)

def setVals (vs : List Value) (off : Nat) (us : List Value) : List Value := vs.take off ++ us ++ vs.drop (off + us.length)
theorem RepL.sets {F : Fz} {w : World} {B} {cs us} (h : RepL F w B cs us) (off : Nat) {ds vs} (hs : RepL F w B ds vs) : RepL F w B (setCells ds off cs) (setVals vs off us) := by
  unfold setCells setVals
  rw [RepL.length h]
  exact ((hs.take off).append h).append (hs.drop _)

/-- The cells of a value. -/
theorem Rep.cells {F : Fz} {w : World} {B d v} (h : Rep F w B d v) : RepL F w B d.cells v.cells.toList := by
  cases h with
  | val v hv =>
    have hc : v.cells.toList = [v] := by cases v <;> first | rfl | (simp [flatV] at hv)
    rw [hc]; exact .cons _ _ _ _ (.val _ hv) .nil
  | agg ds vs h => simpa [D.cells, Value.cells] using h
  | tup ds vs h => exact .cons _ _ _ _ (.tup ds vs h) .nil
  | str l => exact .cons _ _ _ _ (.str l) .nil
  | own i off b h => exact .cons _ _ _ _ (.own i off b h) .nil
  | recsNil d enc p => exact .cons _ _ _ _ (.recsNil d enc p) .nil
  | recs d enc l gb off cap size vs hz h1 h2 h3 hc => exact .cons _ _ _ _ (.recs d enc l gb off cap size vs hz h1 h2 h3 hc) .nil
  | el ds vs gb off h h2 => exact .cons _ _ _ _ (.el ds vs gb off h h2) .nil
  | fn f ds vs h => exact .cons _ _ _ _ (.fn f ds vs h) .nil

theorem Rep.one {F : Fz} {w : World} {B d v} (h : Rep F w B d v) (hf : d.flat = true) : flatV v = true := by
  cases h <;> first | assumption | rfl | (simp [D.flat] at hf)
theorem Rep.ofValue {F : Fz} {w : World} {B} (v : Value) (hv : flatV v = true) : Rep F w B (ofValue v) v := by
  unfold RX.ofValue
  split
  · rename_i s
    have : Value.string s = .string ⟨s.data.toList.toArray⟩ := by cases s; simp
    rw [this]; exact .str _
  · exact .val v hv

end Go.Proofs.Ytncggmddppbgeaa.RX
