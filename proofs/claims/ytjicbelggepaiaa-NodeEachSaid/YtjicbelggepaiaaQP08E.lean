/-
  Part of the proof of NodeEach: P08E.
-/
import Derived.Test.YtjicbelggepaiaaQP08D
set_option linter.all false
namespace Go.Proofs.Ytjicbelggepaiaa.M
open Go Go.Proofs.Ytjicbelggepaiaa.RX Go.Proofs.Ytjicbelggepaiaa.PL
set_option maxRecDepth 100000
theorem cap73 {a b : Nat} (h : a + b ≤ 1000000000) : decide ((a + b) * (72 + 1) ≤ limit) = true := decide_eq_true (by show (a + b) * (72 + 1) ≤ 140737488355328; omega)
theorem awake8 (n : Nat) (hn : 200000 ≤ n) : law08_awake n = some true := by
  obtain ⟨m, rfl⟩ : ∃ m, n = m + 60 := ⟨n - 60, by omega⟩
  clear hn
  kernel_rfl
def long (l : List BS) : Nat := l.foldr (fun x m => x.length + 1 + m) 0
theorem long_le : ∀ {l : List BS} {p : BS}, p ∈ l → p.length < long l
  | [], _, h => by cases h
  | x :: l, p, h => by
    show p.length < x.length + 1 + long l
    rcases List.mem_cons.1 h with rfl | h
    · omega
    · have := long_le h; omega
theorem same_self {d n : Nat} {x : Nd} (hF : Fit d x) (hd : d ≤ 20) (hn : 200000 ≤ n) : ref08_Same n x x = some true := by rw [ref08_Same_eq d n x x hF hF (by omega), sm_refl]
end Go.Proofs.Ytjicbelggepaiaa.M
