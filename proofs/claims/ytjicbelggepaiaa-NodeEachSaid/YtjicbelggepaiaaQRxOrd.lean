/-
  Part of the proof of NodeEach: RxOrd.
-/
import Derived.Test.YtjicbelggepaiaaQRxAnyC
set_option linter.all false
namespace Go.Proofs.Ytjicbelggepaiaa.RX
open Go.RowKit
structure OA where
  lv : List (Nat × ES)
  ps : List (ES × ES)
  ob : List (Nat × List Prop)
  os : List (List Prop × List Prop)
section
variable (C : Nat → List D → D → Prop) (CB : Nat → List D → Boxes → D → Boxes → Prop) (Γ : Nat → Option TI) (nt : Nat) (orc : List (Nat × D)) (orb : List (Nat × CBd)) (ops : List Oper) (fz : List (Nat × List Nat)) (slots keys : List Nat)
end
structure Mono (A A' : OA) : Prop where
  lv : ∀ m s, A.lv.lookup m = some s → A'.lv.lookup m = some s
  ob : ∀ i o, A.ob.lookup i = some o → A'.ob.lookup i = some o
  ps : ∀ p ∈ A.ps, p ∈ A'.ps
  os : ∀ p ∈ A.os, p ∈ A'.os
theorem Mono.refl (A : OA) : Mono A A := ⟨fun _ _ h => h, fun _ _ h => h, fun _ h => h, fun _ h => h⟩
theorem Mono.trans {A B C : OA} (h : Mono A B) (h' : Mono B C) : Mono A C := ⟨fun m s x => h'.lv m s (h.lv m s x), fun i o x => h'.ob i o (h.ob i o x), fun p x => h'.ps p (h.ps p x), fun p x => h'.os p (h.os p x)⟩
section
variable {C : Nat → List D → D → Prop} {CB : Nat → List D → Boxes → D → Boxes → Prop} {P : Program} {F0 : Fz} {w0 : Pt P} {B : Env} {F : Fz} {w : World} {a : Act} {Q : Exit → Act → World → Prop} {Γ : Nat → Option TI} {nt : Nat} {ops : List Oper} {orc : List (Nat × D)} {orb : List (Nat × CBd)} {fz : List (Nat × List Nat)} {slots keys : List Nat}
structure MonoP (A A' : OA) : Prop where
  ob : ∀ i o, A.ob.lookup i = some o → A'.ob.lookup i = some o
  ps : ∀ p ∈ A.ps, p ∈ A'.ps
  os : ∀ p ∈ A.os, p ∈ A'.os
theorem filter_less : ∀ {l : List Nat} {i : Nat} {p p' : Nat → Bool}, l.Nodup → i ∈ l → p i = true → p' i = false → (∀ j, j ≠ i → p' j = p j) → (l.filter p').length + 1 = (l.filter p).length
  | [], i, p, p', _, h, _, _, _ => by simp at h
  | x :: l, i, p, p', hn, h, h1, h2, h3 => by
    have hn' := List.nodup_cons.1 hn
    by_cases hx : x = i
    · subst hx
      have he : l.filter p' = l.filter p := List.filter_congr fun j hj => h3 j fun e => hn'.1 (e ▸ hj)
      rw [List.filter_cons, List.filter_cons, h1, h2, he]
      simp
    · have ih := filter_less hn'.2 ((List.mem_cons.1 h).resolve_left fun e => hx e.symm) h1 h2 h3
      rw [List.filter_cons, List.filter_cons, h3 x hx]
      split
      · rw [List.length_cons, List.length_cons]; omega
      · exact ih
theorem left_eq {n i : Nat} {listed : Array Bool} (hi : i < n) (hsz : listed.size = n) (h : listed.getD i false = false) : left n (listed.setIfInBounds i true) + 1 = left n listed := by
  unfold left
  refine filter_less List.nodup_range (List.mem_range.2 hi) (by rw [h]; rfl) ?_ fun j hj => ?_
  · simp [Array.getD_eq_getD_getElem?, hsz, hi]
  · rw [getD_set_ne false (fun e => hj e.symm)]
end
end Go.Proofs.Ytjicbelggepaiaa.RX
