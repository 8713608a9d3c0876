/-
  Part of the proof of FlowBack: P09C.
-/
import Derived.Test.YtjicbelggepaiaaDoorQP09B
set_option linter.all false
namespace Go.Proofs.YtjicbelggepaiaaDoor.M
open Go Go.Proofs.YtjicbelggepaiaaDoor.RX Go.Proofs.YtjicbelggepaiaaDoor.PL
set_option maxRecDepth 100000
def ent9 (w : Nd → BS) (p : BS × Nd) : BS := wtxt true p.1 ++ [58, 32] ++ w p.2
def wr9 : Nat → Nd → BS
  | 0, _ => []
  | d + 1, t =>
    if t.f_Kind = 1 then wtxt true t.f_Text
    else if t.f_Kind = 2 then [91] ++ Lib.join (t.f_Kids.map (wr9 d)) [44, 32] ++ [93]
    else if t.f_Kind = 3 then [123] ++ Lib.join ((t.f_Keys.zip t.f_Kids).map (ent9 (wr9 d))) [44, 32] ++ [125]
    else [110, 117, 108, 108]
theorem dblq_len (s : BS) : (dblq s).length ≤ 4 * s.length + 2 := by
  have := esc_all_len s
  unfold dblq
  simp only [List.length_append, List.length_cons, List.length_nil]; omega
theorem wtxt_len (b : Bool) (s : BS) : (wtxt b s).length ≤ 4 * s.length + 2 := by
  have := dblq_len s
  unfold wtxt; split <;> omega
theorem joined_len {α : Type} (f : α → BS) (g : α → Nat) : ∀ l : List α, (∀ x ∈ l, (f x).length + 2 ≤ g x) → (Lib.join (l.map f) [44, 32]).length ≤ (l.map g).sum := by
  intro l h
  cases l with
  | nil => simp [Lib.join_nil]
  | cons x r =>
    rw [List.map_cons, Lib.join_cons]
    have h0 := h x List.mem_cons_self
    have : ∀ r : List α, (∀ x ∈ r, (f x).length + 2 ≤ g x) → (Lib.joinTail [44, 32] (r.map f)).length ≤ (r.map g).sum := by
      intro r
      induction r with
      | nil => intro _; simp [Lib.joinTail]
      | cons y r ih =>
        intro h
        have h1 := h y List.mem_cons_self
        have h2 := ih fun x hx => h x (List.mem_cons_of_mem _ hx)
        unfold Lib.joinTail at h2 ⊢
        simp only [List.map_cons, List.flatten_cons, List.length_append, List.sum_cons, List.length_cons, List.length_nil] at h2 ⊢
        omega
    have h2 := this r fun x hx => h x (List.mem_cons_of_mem _ hx)
    rw [List.length_append, List.map_cons, List.sum_cons]
    omega
theorem sum_mul {α : Type} (f : α → Nat) (m : Nat) : ∀ l : List α, (l.map fun x => m * f x).sum = m * (l.map f).sum
  | [] => by simp
  | x :: l => by rw [List.map_cons, List.sum_cons, sum_mul f m l, List.map_cons, List.sum_cons, Nat.mul_add]
theorem zip_sum {α : Type} (g : Nd → Nat) : ∀ (ks : List α) (xs : List Nd), ks.length = xs.length → ((ks.zip xs).map fun p => g p.2).sum = (xs.map g).sum
  | [], [], _ => rfl
  | k :: ks, x :: xs, h => by
    rw [List.zip_cons_cons, List.map_cons, List.sum_cons, zip_sum g ks xs (Nat.succ.inj h), List.map_cons, List.sum_cons]
theorem wr9_len : ∀ (d : Nat) (t : Nd), Fit d t → Shk 2000 d t → (wr9 d t).length + 8100 ≤ 17000 * sz8 d t
  | 0, t, h, _ => h.elim
  | d + 1, t, hF, hS => by
    obtain ⟨_, _, _, _, hk, _, _, f8⟩ := hF
    obtain ⟨s1, s2, s3⟩ := hS
    have ih : ∀ x ∈ t.f_Kids, (wr9 d x).length + 8100 ≤ 17000 * sz8 d x := fun x hx => wr9_len d x (f8 x hx) (s3 x hx)
    have hs : sz8 (d + 1) t = 1 + (t.f_Kids.map (sz8 d)).sum := rfl
    rw [hs, Nat.mul_add]
    unfold wr9
    split
    · have := wtxt_len true t.f_Text; omega
    · split
      · have h1 := joined_len (wr9 d) (fun x => 17000 * sz8 d x) t.f_Kids (fun x hx => by have := ih x hx; omega)
        rw [sum_mul] at h1
        simp only [List.length_append, List.length_cons, List.length_nil]
        omega
      · split
        · rename_i h3
          obtain ⟨hl, _⟩ := hk h3
          have h1 := joined_len (ent9 (wr9 d)) (fun p => 17000 * sz8 d p.2) (t.f_Keys.zip t.f_Kids) (fun p hp => by
            have h2 := ih p.2 (List.of_mem_zip hp).2
            have h3 := s2 p.1 (List.of_mem_zip hp).1
            have h4 := wtxt_len true p.1
            unfold ent9
            simp only [List.length_append, List.length_cons, List.length_nil]
            omega)
          rw [zip_sum (fun x => 17000 * sz8 d x) _ _ hl, sum_mul] at h1
          simp only [List.length_append, List.length_cons, List.length_nil]
          omega
        · simp only [List.length_cons, List.length_nil]; omega
theorem sz_mem {l : List Nd} {d : Nat} {x : Nd} (h : x ∈ l) : sz8 d x ≤ (l.map (sz8 d)).sum := by
  induction l with
  | nil => cases h
  | cons y l ih =>
    rw [List.map_cons, List.sum_cons]
    rcases List.mem_cons.1 h with rfl | h
    · omega
    · have := ih h; omega
theorem le63 {a : Nat} (h : a ≤ 1000000000) : decide ((a : Int) ≤ 9223372036854775807) = true := decide_eq_true (by omega)
theorem capS {a b : Nat} (h : a + b ≤ 1000000000) : decide ((a + b) * (16 + 1) ≤ limit) = true := decide_eq_true (by show (a + b) * (16 + 1) ≤ 140737488355328; omega)
theorem joinOk {l : List BS} (h1 : l.length ≤ 1000000000) (h2 : (Lib.join l ([44, 32] : BS)).length ≤ 1000000000) : decide (List.length l ≤ limit ∧ List.length (Lib.join l ([44, 32] : BS)) ≤ limit) = true := decide_eq_true (by
  have : limit = 140737488355328 := rfl
  omega)
theorem map_flat {α β : Type} (f : α → β) : ∀ l : List α, l.flatMap (fun x => [f x]) = l.map f
  | [] => rfl
  | x :: l => by rw [List.flatMap_cons, map_flat f l]; rfl
theorem flow_Write_eq : ∀ (d n : Nat) (t : Nd), Fit d t → Shk 2000 d t → sz8 d t ≤ 2000 → 300000 + d < n → flow_Write n t = some (wr9 d t)
  | _, 0, _, _, _, _, h => by omega
  | 0, n + 1, t, h, _, _, _ => h.elim
  | d + 1, n + 1, t, hF, hS, hz, hn => by
    have hlen := wr9_len (d + 1) t hF hS
    obtain ⟨f1, f2, _, _, hk, _, _, f8⟩ := hF
    obtain ⟨s1, s2, s3⟩ := hS
    have hs : sz8 (d + 1) t = 1 + (t.f_Kids.map (sz8 d)).sum := rfl
    have hR : ∀ x ∈ t.f_Kids, flow_Write n x = some (wr9 d x) := fun x hx => flow_Write_eq d n x (f8 x hx) (s3 x hx) (by have := sz_mem (d := d) hx; omega) (by omega)
    show flow_Write_b (flow_Write n) n t = _
    unfold flow_Write_b
    unfold wr9 at hlen ⊢
    by_cases h1 : t.f_Kind = 1
    · rw [if_pos (by rw [h1]; rfl), if_pos h1, write_eq n t.f_Text true (by omega) (by omega)]; rfl
    rw [if_neg (by simpa using h1), if_neg h1]
    rw [if_neg h1] at hlen
    by_cases h2 : t.f_Kind = 2
    · rw [if_pos (by rw [h2]; rfl), if_pos h2]
      rw [if_pos h2] at hlen
      simp only [List.length_append, List.length_cons, List.length_nil] at hlen
      have l1 := gather (L := fun k (s : List BS) i => flow_Write_l1 (flow_Write n) n t.f_Kids (List.length t.f_Kids : Int) k s i) t.f_Kids (fun acc x => acc ++ [wr9 d x]) id (fun i acc => acc.length = i) (by omega)
        (fun k s i h hi => by
          rw [flow_Write_l1, if_pos (lt_i h), if_pos (in_i h), at_i h, hR _ (List.getElem_mem h), Option.bind_some, if_pos (capS (by simp only [List.length_cons, List.length_nil]; omega))])
        (fun s i h hi => by rw [List.length_append]; simp only [List.length_cons, List.length_nil]; omega)
        (fun k s hi => by rw [flow_Write_l1, nlt_n]; rfl) n 0 [] (by omega) (by omega) rfl
      obtain ⟨l1, l2⟩ := l1
      rw [List.drop_zero, foldl_app, map_flat] at l1 l2
      have l1 : flow_Write_l1 (flow_Write n) n t.f_Kids (List.length t.f_Kids : Int) n ([] : List BS) 0 = some (t.f_Kids.map (wr9 d)) := by simpa using l1
      rw [l1, Option.bind_some, if_pos (joinOk (by rw [List.length_map]; omega) (by omega)), if_pos (le63 (by simp only [List.length_cons, List.length_nil]; omega)), if_pos (le63 (by simp only [List.length_append, List.length_cons, List.length_nil]; omega))]
    rw [if_neg (by simpa using h2), if_neg h2]
    rw [if_neg h2] at hlen
    by_cases h3 : t.f_Kind = 3
    · rw [if_pos (by rw [h3]; rfl), if_pos h3]
      rw [if_pos h3] at hlen
      simp only [List.length_append, List.length_cons, List.length_nil] at hlen
      obtain ⟨hl, _⟩ := hk h3
      have hzl : (t.f_Keys.zip t.f_Kids).length = t.f_Kids.length := by rw [List.length_zip]; omega
      have l1 := gather (L := fun k (s : List BS) i => flow_Write_l2 (flow_Write n) n t.f_Kids (List.length t.f_Kids : Int) t k s i) (t.f_Keys.zip t.f_Kids) (fun acc p => acc ++ [ent9 (wr9 d) p]) id (fun i acc => acc.length = i) (by omega)
        (fun k s i h hi => by
          have hb : i < t.f_Kids.length := by omega
          have ha : i < t.f_Keys.length := by omega
          have m1 := s2 t.f_Keys[i] (List.getElem_mem ha)
          have m2 := wtxt_len true t.f_Keys[i]
          have m3 := wr9_len d t.f_Kids[i] (f8 _ (List.getElem_mem hb)) (s3 _ (List.getElem_mem hb))
          have m4 := sz_mem (d := d) (List.getElem_mem hb)
          rw [flow_Write_l2, if_pos (lt_i hb), if_pos (in_i hb), if_pos (in_i ha), at_i ha, at_i hb, write_eq n _ true (by omega) (by omega), Option.bind_some, if_pos (le63 (by simp only [List.length_cons, List.length_nil]; omega)), hR _ (List.getElem_mem hb), Option.bind_some, if_pos (le63 (by simp only [List.length_append, List.length_cons, List.length_nil]; omega)), if_pos (capS (by simp only [List.length_cons, List.length_nil]; omega)), List.getElem_zip]; rfl)
        (fun s i h hi => by rw [List.length_append]; simp only [List.length_cons, List.length_nil]; omega)
        (fun k s hi => by rw [hzl, flow_Write_l2, nlt_n]; rfl) n 0 [] (by omega) (by omega) rfl
      obtain ⟨l1, l2⟩ := l1
      rw [List.drop_zero, foldl_app, map_flat] at l1 l2
      have l1 : flow_Write_l2 (flow_Write n) n t.f_Kids (List.length t.f_Kids : Int) t n ([] : List BS) 0 = some ((t.f_Keys.zip t.f_Kids).map (ent9 (wr9 d))) := by simpa using l1
      rw [l1, Option.bind_some, if_pos (joinOk (by rw [List.length_map]; omega) (by omega)), if_pos (le63 (by simp only [List.length_cons, List.length_nil]; omega)), if_pos (le63 (by simp only [List.length_append, List.length_cons, List.length_nil]; omega))]
    rw [if_neg (by simpa using h3), if_neg h3]
def n9 : Nd := S_api_Node.mk 2 [] [] [S_api_Node.mk 1 [97] [] [], S_api_Node.mk 3 [] [[98], [100]] [S_api_Node.mk 1 [99] [] [], Z8]]
theorem fit_leaf {d : Nat} {s : BS} : Fit (d + 1) (S_api_Node.mk 1 s [] []) := ⟨by simp, by simp, fun h => (h rfl).elim, fun _ => rfl, fun h => absurd (show (1 : Int) = 3 from h) (by decide), fun _ => rfl, ⟨show (0 : Int) ≤ 1 by decide, show (1 : Int) ≤ 3 by decide⟩, fun x hx => by cases hx⟩
theorem fit_null {d : Nat} : Fit (d + 1) Z8 := ⟨by simp, by simp, fun _ => rfl, fun _ => rfl, fun h => absurd h (by decide), fun _ => rfl, by decide, fun x hx => by cases hx⟩
theorem fit_n9 : Fit 12 n9 := ⟨by decide, by decide, fun _ => rfl, fun _ => rfl, fun h => absurd h (by decide), fun h => absurd h (by decide), by decide, fun x hx => by
  rcases List.mem_cons.1 hx with rfl | hx
  · exact fit_leaf
  · rw [List.mem_singleton] at hx
    subst hx
    exact ⟨by decide, by decide, fun _ => rfl, fun h => (h rfl).elim, fun _ => ⟨rfl, by decide⟩, fun h => absurd h (by decide), by decide, fun x hx => by
      rcases List.mem_cons.1 hx with rfl | hx
      · exact fit_leaf
      · rw [List.mem_singleton] at hx; subst hx; exact fit_null⟩⟩
theorem awake9 (n : Nat) (hn : 400000 ≤ n) : law09_awake n = some true := by
  obtain ⟨m, rfl⟩ : ∃ m, n = m + 60 := ⟨n - 60, by omega⟩
  have v1 : flow_reader_value__o0 (m + 60) (S_flow_reader.mk [91, 97, 44, 32, 123, 98, 58, 32, 39, 99, 39, 44, 32, 34, 100, 34, 58, 125, 93] 0 false) = some (n9, true, S_flow_reader.mk [91, 97, 44, 32, 123, 98, 58, 32, 39, 99, 39, 44, 32, 34, 100, 34, 58, 125, 93] 19 false) := by clear hn; kernel_rfl
  have p1 : flow_Parse (m + 60) [91, 97, 44, 32, 123, 98, 58, 32, 39, 99, 39, 44, 32, 34, 100, 34, 58, 125, 93] = some (n9, 0) := by
    unfold flow_Parse
    rw [v1, Option.bind_some]
    have x1 : flow_reader_next__o0 (m + 60) (S_flow_reader.mk [91, 97, 44, 32, 123, 98, 58, 32, 39, 99, 39, 44, 32, 34, 100, 34, 58, 125, 93] 19 false) = some (0, S_flow_reader.mk [91, 97, 44, 32, 123, 98, 58, 32, 39, 99, 39, 44, 32, 34, 100, 34, 58, 125, 93] 19 false) := by clear hn; kernel_rfl
    rw [node_Right_yes (m + 60) n9 fit_n9 (by decide) (by omega)]
    simp only [x1]
    rfl
  have p2 : flow_Parse (m + 60) [91, 97, 44, 32, 93] = some (Z8, 3) := by clear hn; kernel_rfl
  unfold law09_awake
  rw [p1, p2]
  rfl
end Go.Proofs.YtjicbelggepaiaaDoor.M
