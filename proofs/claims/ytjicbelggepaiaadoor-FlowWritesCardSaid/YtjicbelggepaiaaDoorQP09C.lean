/-
  Part of the proof of FlowWrites: P09C.
-/
import Derived.Test.YtjicbelggepaiaaDoorQP09B
set_option linter.all false
namespace Go.Proofs.YtjicbelggepaiaaDoor.M
open Go Go.Proofs.YtjicbelggepaiaaDoor.RX Go.Proofs.YtjicbelggepaiaaDoor.PL
set_option maxRecDepth 100000
def ent9 (w : Nd → BS) (p : BS × Nd) : BS := wtxt true p.1 ++ [58, 32] ++ w p.2
def wr9 : Nat → Nd → BS
  | 0, _ => []
  | d + 1, t =>
    if t.f_Kind = 1 then wtxt true t.f_Text
    else if t.f_Kind = 2 then [91] ++ Lib.join (t.f_Kids.map (wr9 d)) [44, 32] ++ [93]
    else if t.f_Kind = 3 then [123] ++ Lib.join ((t.f_Keys.zip t.f_Kids).map (ent9 (wr9 d))) [44, 32] ++ [125]
    else [110, 117, 108, 108]
theorem dblq_len (s : BS) : (dblq s).length ≤ 4 * s.length + 2 := by
  have := esc_all_len s
  unfold dblq
  simp only [List.length_append, List.length_cons, List.length_nil]; omega
theorem wtxt_len (b : Bool) (s : BS) : (wtxt b s).length ≤ 4 * s.length + 2 := by
  have := dblq_len s
  unfold wtxt; split <;> omega
theorem joined_len {α : Type} (f : α → BS) (g : α → Nat) : ∀ l : List α, (∀ x ∈ l, (f x).length + 2 ≤ g x) → (Lib.join (l.map f) [44, 32]).length ≤ (l.map g).sum := by
  intro l h
  cases l with
  | nil => simp [Lib.join_nil]
  | cons x r =>
    rw [List.map_cons, Lib.join_cons]
    have h0 := h x List.mem_cons_self
    have : ∀ r : List α, (∀ x ∈ r, (f x).length + 2 ≤ g x) → (Lib.joinTail [44, 32] (r.map f)).length ≤ (r.map g).sum := by
      intro r
      induction r with
      | nil => intro _; simp [Lib.joinTail]
      | cons y r ih =>
        intro h
        have h1 := h y List.mem_cons_self
        have h2 := ih fun x hx => h x (List.mem_cons_of_mem _ hx)
        unfold Lib.joinTail at h2 ⊢
        simp only [List.map_cons, List.flatten_cons, List.length_append, List.sum_cons, List.length_cons, List.length_nil] at h2 ⊢
        omega
    have h2 := this r fun x hx => h x (List.mem_cons_of_mem _ hx)
    rw [List.length_append, List.map_cons, List.sum_cons]
    omega
theorem sum_mul {α : Type} (f : α → Nat) (m : Nat) : ∀ l : List α, (l.map fun x => m * f x).sum = m * (l.map f).sum
  | [] => by simp
  | x :: l => by rw [List.map_cons, List.sum_cons, sum_mul f m l, List.map_cons, List.sum_cons, Nat.mul_add]
theorem zip_sum {α : Type} (g : Nd → Nat) : ∀ (ks : List α) (xs : List Nd), ks.length = xs.length → ((ks.zip xs).map fun p => g p.2).sum = (xs.map g).sum
  | [], [], _ => rfl
  | k :: ks, x :: xs, h => by
    rw [List.zip_cons_cons, List.map_cons, List.sum_cons, zip_sum g ks xs (Nat.succ.inj h), List.map_cons, List.sum_cons]
theorem wr9_len : ∀ (d : Nat) (t : Nd), Fit d t → Shk 2000 d t → (wr9 d t).length + 8100 ≤ 17000 * sz8 d t
  | 0, t, h, _ => h.elim
  | d + 1, t, hF, hS => by
    obtain ⟨_, _, _, _, hk, _, _, f8⟩ := hF
    obtain ⟨s1, s2, s3⟩ := hS
    have ih : ∀ x ∈ t.f_Kids, (wr9 d x).length + 8100 ≤ 17000 * sz8 d x := fun x hx => wr9_len d x (f8 x hx) (s3 x hx)
    have hs : sz8 (d + 1) t = 1 + (t.f_Kids.map (sz8 d)).sum := rfl
    rw [hs, Nat.mul_add]
    unfold wr9
    split
    · have := wtxt_len true t.f_Text; omega
    · split
      · have h1 := joined_len (wr9 d) (fun x => 17000 * sz8 d x) t.f_Kids (fun x hx => by have := ih x hx; omega)
        rw [sum_mul] at h1
        simp only [List.length_append, List.length_cons, List.length_nil]
        omega
      · split
        · rename_i h3
          obtain ⟨hl, _⟩ := hk h3
          have h1 := joined_len (ent9 (wr9 d)) (fun p => 17000 * sz8 d p.2) (t.f_Keys.zip t.f_Kids) (fun p hp => by
            have h2 := ih p.2 (List.of_mem_zip hp).2
            have h3 := s2 p.1 (List.of_mem_zip hp).1
            have h4 := wtxt_len true p.1
            unfold ent9
            simp only [List.length_append, List.length_cons, List.length_nil]
            omega)
          rw [zip_sum (fun x => 17000 * sz8 d x) _ _ hl, sum_mul] at h1
          simp only [List.length_append, List.length_cons, List.length_nil]
          omega
        · simp only [List.length_cons, List.length_nil]; omega
theorem sz_mem {l : List Nd} {d : Nat} {x : Nd} (h : x ∈ l) : sz8 d x ≤ (l.map (sz8 d)).sum := by
  induction l with
  | nil => cases h
  | cons y l ih =>
    rw [List.map_cons, List.sum_cons]
    rcases List.mem_cons.1 h with rfl | h
    · omega
    · have := ih h; omega
theorem le63 {a : Nat} (h : a ≤ 1000000000) : decide ((a : Int) ≤ 9223372036854775807) = true := decide_eq_true (by omega)
theorem capS {a b : Nat} (h : a + b ≤ 1000000000) : decide ((a + b) * (16 + 1) ≤ limit) = true := decide_eq_true (by show (a + b) * (16 + 1) ≤ 140737488355328; omega)
theorem joinOk {l : List BS} (h1 : l.length ≤ 1000000000) (h2 : (Lib.join l ([44, 32] : BS)).length ≤ 1000000000) : decide (List.length l ≤ limit ∧ List.length (Lib.join l ([44, 32] : BS)) ≤ limit) = true := decide_eq_true (by
  have : limit = 140737488355328 := rfl
  omega)
theorem map_flat {α β : Type} (f : α → β) : ∀ l : List α, l.flatMap (fun x => [f x]) = l.map f
  | [] => rfl
  | x :: l => by rw [List.flatMap_cons, map_flat f l]; rfl
theorem flow_Write_eq : ∀ (d n : Nat) (t : Nd), Fit d t → Shk 2000 d t → sz8 d t ≤ 2000 → 300000 + d < n → flow_Write n t = some (wr9 d t)
  | _, 0, _, _, _, _, h => by omega
  | 0, n + 1, t, h, _, _, _ => h.elim
  | d + 1, n + 1, t, hF, hS, hz, hn => by
    have hlen := wr9_len (d + 1) t hF hS
    obtain ⟨f1, f2, _, _, hk, _, _, f8⟩ := hF
    obtain ⟨s1, s2, s3⟩ := hS
    have hs : sz8 (d + 1) t = 1 + (t.f_Kids.map (sz8 d)).sum := rfl
    have hR : ∀ x ∈ t.f_Kids, flow_Write n x = some (wr9 d x) := fun x hx => flow_Write_eq d n x (f8 x hx) (s3 x hx) (by have := sz_mem (d := d) hx; omega) (by omega)
    show flow_Write_b (flow_Write n) n t = _
    unfold flow_Write_b
    unfold wr9 at hlen ⊢
    by_cases h1 : t.f_Kind = 1
    · rw [if_pos (by rw [h1]; rfl), if_pos h1, write_eq n t.f_Text true (by omega) (by omega)]; rfl
    rw [if_neg (by simpa using h1), if_neg h1]
    rw [if_neg h1] at hlen
    by_cases h2 : t.f_Kind = 2
    · rw [if_pos (by rw [h2]; rfl), if_pos h2]
      rw [if_pos h2] at hlen
      simp only [List.length_append, List.length_cons, List.length_nil] at hlen
      have l1 := gather (L := fun k (s : List BS) i => flow_Write_l1 (flow_Write n) n t.f_Kids (List.length t.f_Kids : Int) k s i) t.f_Kids (fun acc x => acc ++ [wr9 d x]) id (fun i acc => acc.length = i) (by omega)
        (fun k s i h hi => by
          rw [flow_Write_l1, if_pos (lt_i h), if_pos (in_i h), at_i h, hR _ (List.getElem_mem h), Option.bind_some, if_pos (capS (by simp only [List.length_cons, List.length_nil]; omega))])
        (fun s i h hi => by rw [List.length_append]; simp only [List.length_cons, List.length_nil]; omega)
        (fun k s hi => by rw [flow_Write_l1, nlt_n]; rfl) n 0 [] (by omega) (by omega) rfl
      obtain ⟨l1, l2⟩ := l1
      rw [List.drop_zero, foldl_app, map_flat] at l1 l2
      have l1 : flow_Write_l1 (flow_Write n) n t.f_Kids (List.length t.f_Kids : Int) n ([] : List BS) 0 = some (t.f_Kids.map (wr9 d)) := by simpa using l1
      rw [l1, Option.bind_some, if_pos (joinOk (by rw [List.length_map]; omega) (by omega)), if_pos (le63 (by simp only [List.length_cons, List.length_nil]; omega)), if_pos (le63 (by simp only [List.length_append, List.length_cons, List.length_nil]; omega))]
    rw [if_neg (by simpa using h2), if_neg h2]
    rw [if_neg h2] at hlen
    by_cases h3 : t.f_Kind = 3
    · rw [if_pos (by rw [h3]; rfl), if_pos h3]
      rw [if_pos h3] at hlen
      simp only [List.length_append, List.length_cons, List.length_nil] at hlen
      obtain ⟨hl, _⟩ := hk h3
      have hzl : (t.f_Keys.zip t.f_Kids).length = t.f_Kids.length := by rw [List.length_zip]; omega
      have l1 := gather (L := fun k (s : List BS) i => flow_Write_l2 (flow_Write n) n t.f_Kids (List.length t.f_Kids : Int) t k s i) (t.f_Keys.zip t.f_Kids) (fun acc p => acc ++ [ent9 (wr9 d) p]) id (fun i acc => acc.length = i) (by omega)
        (fun k s i h hi => by
          have hb : i < t.f_Kids.length := by omega
          have ha : i < t.f_Keys.length := by omega
          have m1 := s2 t.f_Keys[i] (List.getElem_mem ha)
          have m2 := wtxt_len true t.f_Keys[i]
          have m3 := wr9_len d t.f_Kids[i] (f8 _ (List.getElem_mem hb)) (s3 _ (List.getElem_mem hb))
          have m4 := sz_mem (d := d) (List.getElem_mem hb)
          rw [flow_Write_l2, if_pos (lt_i hb), if_pos (in_i hb), if_pos (in_i ha), at_i ha, at_i hb, write_eq n _ true (by omega) (by omega), Option.bind_some, if_pos (le63 (by simp only [List.length_cons, List.length_nil]; omega)), hR _ (List.getElem_mem hb), Option.bind_some, if_pos (le63 (by simp only [List.length_append, List.length_cons, List.length_nil]; omega)), if_pos (capS (by simp only [List.length_cons, List.length_nil]; omega)), List.getElem_zip]; rfl)
        (fun s i h hi => by rw [List.length_append]; simp only [List.length_cons, List.length_nil]; omega)
        (fun k s hi => by rw [hzl, flow_Write_l2, nlt_n]; rfl) n 0 [] (by omega) (by omega) rfl
      obtain ⟨l1, l2⟩ := l1
      rw [List.drop_zero, foldl_app, map_flat] at l1 l2
      have l1 : flow_Write_l2 (flow_Write n) n t.f_Kids (List.length t.f_Kids : Int) t n ([] : List BS) 0 = some ((t.f_Keys.zip t.f_Kids).map (ent9 (wr9 d))) := by simpa using l1
      rw [l1, Option.bind_some, if_pos (joinOk (by rw [List.length_map]; omega) (by omega)), if_pos (le63 (by simp only [List.length_cons, List.length_nil]; omega)), if_pos (le63 (by simp only [List.length_append, List.length_cons, List.length_nil]; omega))]
    rw [if_neg (by simpa using h3), if_neg h3]
theorem text_eq (n : Nat) (s : BS) (hs : s.length ≤ 100000) (hn : 200000 ≤ n) : ref09_text n s = some (wtxt true s) := by
  obtain ⟨_, d1⟩ := double_eq n s hs hn
  obtain ⟨_, r1⟩ := row_eq n s hs hn
  unfold ref09_text wtxt
  rw [d1, r1]
  cases rowB s <;> rfl
def pc9 (t : Nd) (d i : Nat) : BS := (if t.f_Kind = 3 then wtxt true (t.f_Keys[i]?.getD []) ++ [58, 32] else []) ++ wr9 d (t.f_Kids[i]?.getD Z8)
theorem ref_j3 (n d : Nat) (t : Nd) (hF : Fit (d + 1) t) (hS : Shk 2000 (d + 1) t) (hz : sz8 (d + 1) t ≤ 2000) (hn : 300000 + d < n) (R : Nd → Option BS) (hR : ∀ x ∈ t.f_Kids, R x = some (wr9 d x)) (out : BS) (i : Nat) (h : i < t.f_Kids.length) (ho : out.length ≤ 500000000) :
    ref09_Write_j3 R n out (i : Int) t = some (out ++ (if 0 < i then [44, 32] else []) ++ pc9 t d i) ∧ (pc9 t d i).length + 2 ≤ 17000 * sz8 d t.f_Kids[i] := by
  obtain ⟨f1, f2, _, _, hk, _, _, f8⟩ := hF
  obtain ⟨s1, s2, s3⟩ := hS
  have hs : sz8 (d + 1) t = 1 + (t.f_Kids.map (sz8 d)).sum := rfl
  have m3 := wr9_len d t.f_Kids[i] (f8 _ (List.getElem_mem h)) (s3 _ (List.getElem_mem h))
  have m4 := sz_mem (d := d) (List.getElem_mem h)
  have hkid : (t.f_Kids[i]?.getD Z8) = t.f_Kids[i] := by simp [h]
  have hpc : pc9 t d i = (if t.f_Kind = 3 then wtxt true (t.f_Keys[i]?.getD []) ++ [58, 32] else []) ++ wr9 d t.f_Kids[i] := by unfold pc9; rw [hkid]
  have j4 : ref09_Write_j4 R n out (i : Int) (decide ((i : Int) > 0)) t = some (out ++ (if 0 < i then [44, 32] else [])) := by
    unfold ref09_Write_j4
    by_cases h0 : 0 < i
    · rw [if_pos (decide_eq_true (by omega)), if_pos (le63 (by simp only [List.length_cons, List.length_nil]; omega)), if_pos h0]
    · rw [if_neg (by rw [decide_eq_false (by omega)]; exact Bool.false_ne_true), if_neg h0, List.append_nil]
  have ho2 : (out ++ (if 0 < i then [44, 32] else [])).length ≤ 500000002 := by
    rw [List.length_append]; split <;> simp only [List.length_cons, List.length_nil] <;> omega
  generalize out ++ (if 0 < i then [44, 32] else []) = out2 at j4 ho2 ⊢
  have j5 : ref09_Write_j5 R n out2 (i : Int) (t.f_Kind == 3) t = some (out2 ++ (if t.f_Kind = 3 then wtxt true (t.f_Keys[i]?.getD []) ++ [58, 32] else [])) ∧ (if t.f_Kind = 3 then wtxt true (t.f_Keys[i]?.getD []) ++ [58, 32] else []).length ≤ 8004 := by
    unfold ref09_Write_j5
    by_cases h3 : t.f_Kind = 3
    · obtain ⟨hl, _⟩ := hk h3
      have ha : i < t.f_Keys.length := by omega
      have m1 := s2 t.f_Keys[i] (List.getElem_mem ha)
      have m2 := wtxt_len true t.f_Keys[i]
      have hkey : (t.f_Keys[i]?.getD []) = t.f_Keys[i] := by simp [ha]
      rw [if_pos (by rw [h3]; rfl), if_pos (in_i ha), at_i ha, text_eq n _ (by omega) (by omega), Option.bind_some, if_pos (le63 (by omega)), if_pos (le63 (by simp only [List.length_append, List.length_cons, List.length_nil]; omega)), if_pos h3, hkey]
      exact ⟨by rw [List.append_assoc], by simp only [List.length_append, List.length_cons, List.length_nil]; omega⟩
    · rw [if_neg (by simpa using h3), if_neg h3, List.append_nil]
      exact ⟨rfl, by simp⟩
  obtain ⟨j5, j6⟩ := j5
  rw [hpc]
  generalize (if t.f_Kind = 3 then wtxt true (t.f_Keys[i]?.getD []) ++ [58, 32] else []) = hd at j5 j6 ⊢
  constructor
  · unfold ref09_Write_j3
    rw [j4, Option.bind_some, j5, Option.bind_some, if_pos (in_i h), at_i h, hR _ (List.getElem_mem h), Option.bind_some, if_pos (le63 (by simp only [List.length_append]; omega)), List.append_assoc]
  · simp only [List.length_append]; omega
theorem ref_l2 (n d : Nat) (t : Nd) (hF : Fit (d + 1) t) (hS : Shk 2000 (d + 1) t) (hz : sz8 (d + 1) t ≤ 2000) (hn : 300000 + d < n) (R : Nd → Option BS) (hR : ∀ x ∈ t.f_Kids, R x = some (wr9 d x)) : ∀ (k i : Nat) (out : BS), 0 < i → i ≤ t.f_Kids.length → t.f_Kids.length - i < k → out.length + 17000 * ((t.f_Kids.drop i).map (sz8 d)).sum ≤ 400000000 →
    ref09_Write_l2 R n t k out (i : Int) = some (out ++ (List.range' i (t.f_Kids.length - i)).flatMap fun j => [44, 32] ++ pc9 t d j)
  | 0, i, out, _, _, h, _ => by omega
  | k + 1, i, out, h0, h1, h2, h3 => by
    rw [ref09_Write_l2]
    by_cases h : i < t.f_Kids.length
    · obtain ⟨j1, j2⟩ := ref_j3 n d t hF hS hz hn R hR out i h (by omega)
      obtain ⟨f1, _⟩ := hF
      rw [drop_at h, List.map_cons, List.sum_cons, Nat.mul_add] at h3
      rw [if_pos (lt_i h), j1, Option.bind_some, wrap_s i (by omega), if_pos h0]
      rw [ref_l2 n d t ⟨f1, by assumption⟩ hS hz hn R hR k (i + 1) _ (by omega) (by omega) (by omega) (by simp only [List.length_append, List.length_cons, List.length_nil]; omega)]
      rw [show t.f_Kids.length - i = (t.f_Kids.length - (i + 1)) + 1 by omega, List.range'_succ, List.flatMap_cons]
      simp only [List.append_assoc]
    · have : i = t.f_Kids.length := by omega
      subst this
      rw [nlt_n, Nat.sub_self]
      simp
theorem join_range (g : Nat → BS) (m : Nat) : Lib.join ((List.range' 0 (m + 1)).map g) [44, 32] = g 0 ++ (List.range' 1 m).flatMap fun j => [44, 32] ++ g j := by
  rw [List.range'_succ, List.map_cons, Lib.join_cons]
  congr 1
  unfold Lib.joinTail
  rw [List.map_map, List.flatMap_def]
  rfl
theorem map_range {α β : Type} (l : List α) (f : α → β) (g : Nat → β) (h : ∀ i (hi : i < l.length), f l[i] = g i) : l.map f = (List.range' 0 l.length).map g := by
  refine List.ext_getElem (by simp) fun i h1 h2 => ?_
  simp only [List.length_map] at h1
  simp [h i h1]
theorem ref09_Write_eq : ∀ (d n : Nat) (t : Nd), Fit d t → Shk 2000 d t → sz8 d t ≤ 2000 → 300000 + d < n → ref09_Write n t = some (wr9 d t)
  | _, 0, _, _, _, _, h => by omega
  | 0, n + 1, t, h, _, _, _ => h.elim
  | d + 1, n + 1, t, hF, hS, hz, hn => by
    have hlen := wr9_len (d + 1) t hF hS
    have hF' := hF
    have hS' := hS
    obtain ⟨f1, f2, f3, _, hk, f6, f7, f8⟩ := hF
    obtain ⟨s1, s2, s3⟩ := hS
    have hs : sz8 (d + 1) t = 1 + (t.f_Kids.map (sz8 d)).sum := rfl
    have hR : ∀ x ∈ t.f_Kids, ref09_Write n x = some (wr9 d x) := fun x hx => ref09_Write_eq d n x (f8 x hx) (s3 x hx) (by have := sz_mem (d := d) hx; omega) (by omega)
    show ref09_Write_b (ref09_Write n) n t = _
    unfold ref09_Write_b
    by_cases h0 : t.f_Kind = 0
    · rw [if_pos (by rw [h0]; rfl)]
      unfold wr9
      rw [if_neg (by omega), if_neg (by omega), if_neg (by omega)]
    rw [if_neg (by simpa using h0)]
    by_cases h1 : t.f_Kind = 1
    · rw [if_pos (by rw [h1]; rfl), text_eq n t.f_Text (by omega) (by omega)]
      unfold wr9
      rw [if_pos h1]; rfl
    rw [if_neg (by simpa using h1)]
    have j1 : ref09_Write_j1 (ref09_Write n) n [91] (t.f_Kind == 3) t = some [if t.f_Kind = 3 then 123 else 91] := by
      unfold ref09_Write_j1
      by_cases h3 : t.f_Kind = 3
      · rw [if_pos (by rw [h3]; rfl), if_pos h3]
      · rw [if_neg (by simpa using h3), if_neg h3]
    rw [j1, Option.bind_some]
    have hbody : wr9 (d + 1) t = [if t.f_Kind = 3 then 123 else 91] ++ Lib.join ((List.range' 0 t.f_Kids.length).map (pc9 t d)) [44, 32] ++ [if t.f_Kind = 3 then 125 else 93] := by
      unfold wr9
      rw [if_neg h1]
      by_cases h2 : t.f_Kind = 2
      · have h3 : ¬ t.f_Kind = 3 := by omega
        rw [if_pos h2, if_neg h3, if_neg h3, map_range t.f_Kids (wr9 d) (pc9 t d) (fun i hi => by unfold pc9; rw [if_neg h3]; simp [hi])]
      · have h3 : t.f_Kind = 3 := by omega
        obtain ⟨hl, _⟩ := hk h3
        have hzl : (t.f_Keys.zip t.f_Kids).length = t.f_Kids.length := by rw [List.length_zip]; omega
        rw [if_neg h2, if_pos h3, if_pos h3, if_pos h3, map_range (t.f_Keys.zip t.f_Kids) _ (pc9 t d) (fun i hi => by
          unfold pc9; rw [if_pos h3, List.getElem_zip]
          have ha : i < t.f_Keys.length := by omega
          have hb : i < t.f_Kids.length := by omega
          simp [ha, hb, ent9]), hzl]
    have hl2 : ref09_Write_l2 (ref09_Write n) n t n [if t.f_Kind = 3 then 123 else 91] 0 = some ([if t.f_Kind = 3 then 123 else 91] ++ Lib.join ((List.range' 0 t.f_Kids.length).map (pc9 t d)) [44, 32]) := by
      obtain ⟨n, rfl⟩ : ∃ m, n = m + 1 := ⟨n - 1, by omega⟩
      rw [ref09_Write_l2]
      by_cases h : 0 < t.f_Kids.length
      · obtain ⟨q1, q2⟩ := ref_j3 (n + 1) d t hF' hS' hz (by omega) (ref09_Write (n + 1)) hR [if t.f_Kind = 3 then 123 else 91] 0 h (by simp)
        have q1 : ref09_Write_j3 (ref09_Write (n + 1)) (n + 1) [if t.f_Kind = 3 then 123 else 91] 0 t = _ := q1
        have hc : decide ((0 : Int) < (List.length t.f_Kids : Int)) = true := lt_i h
        have hw : IntKind.wrap .i64 ((0 : Int) + 1) = ((1 : Nat) : Int) := wrap_s 0 (by omega)
        have hsum : 17000 * ((t.f_Kids.drop 0).map (sz8 d)).sum ≤ 34000000 := by rw [List.drop_zero]; omega
        rw [drop_at h, List.map_cons, List.sum_cons, Nat.mul_add, Nat.zero_add] at hsum
        rw [if_pos hc, q1, Option.bind_some, hw, ref_l2 (n + 1) d t hF' hS' hz (by omega) (ref09_Write (n + 1)) hR n 1 _ (by omega) (by omega) (by omega) (by simp only [List.length_append, List.length_cons, List.length_nil, if_neg (Nat.lt_irrefl 0)]; omega)]
        obtain ⟨m, hm⟩ : ∃ m, t.f_Kids.length = m + 1 := ⟨t.f_Kids.length - 1, by omega⟩
        rw [hm, join_range, if_neg (Nat.lt_irrefl 0)]
        simp only [List.append_assoc, List.append_nil, List.nil_append, Nat.add_sub_cancel]
      · have h9 : t.f_Kids.length = 0 := by omega
        have hc : decide ((0 : Int) < (List.length t.f_Kids : Int)) = false := by rw [h9]; rfl
        rw [hc, h9]
        simp [Lib.join_nil]
    rw [hl2, Option.bind_some]
    rw [hbody] at hlen ⊢
    simp only [List.length_append, List.length_cons, List.length_nil] at hlen
    by_cases h3 : t.f_Kind = 3
    · rw [if_pos h3]
      rw [if_pos (by rw [h3]; rfl), if_pos (le63 (by simp only [List.length_append, List.length_cons, List.length_nil]; omega)), if_pos h3]
    · rw [if_neg h3]
      rw [if_neg (by simpa using h3), if_pos (le63 (by simp only [List.length_append, List.length_cons, List.length_nil]; omega)), if_neg h3]
def n9 : Nd := S_api_Node.mk 2 [] [] [S_api_Node.mk 1 [97] [] [], S_api_Node.mk 3 [] [[98], [100]] [S_api_Node.mk 1 [99] [] [], Z8]]
theorem fit_leaf {d : Nat} {s : BS} : Fit (d + 1) (S_api_Node.mk 1 s [] []) := ⟨by simp, by simp, fun h => (h rfl).elim, fun _ => rfl, fun h => absurd (show (1 : Int) = 3 from h) (by decide), fun _ => rfl, ⟨show (0 : Int) ≤ 1 by decide, show (1 : Int) ≤ 3 by decide⟩, fun x hx => by cases hx⟩
theorem fit_null {d : Nat} : Fit (d + 1) Z8 := ⟨by simp, by simp, fun _ => rfl, fun _ => rfl, fun h => absurd h (by decide), fun _ => rfl, by decide, fun x hx => by cases hx⟩
theorem fit_n9 : Fit 12 n9 := ⟨by decide, by decide, fun _ => rfl, fun _ => rfl, fun h => absurd h (by decide), fun h => absurd h (by decide), by decide, fun x hx => by
  rcases List.mem_cons.1 hx with rfl | hx
  · exact fit_leaf
  · rw [List.mem_singleton] at hx
    subst hx
    exact ⟨by decide, by decide, fun _ => rfl, fun h => (h rfl).elim, fun _ => ⟨rfl, by decide⟩, fun h => absurd h (by decide), by decide, fun x hx => by
      rcases List.mem_cons.1 hx with rfl | hx
      · exact fit_leaf
      · rw [List.mem_singleton] at hx; subst hx; exact fit_null⟩⟩
theorem awake9 (n : Nat) (hn : n = 400000) : law09_awake n = some true := by
  have v1 : flow_reader_value__o0 n (S_flow_reader.mk [91, 97, 44, 32, 123, 98, 58, 32, 39, 99, 39, 44, 32, 34, 100, 34, 58, 125, 93] 0 false) = some (n9, true, S_flow_reader.mk [91, 97, 44, 32, 123, 98, 58, 32, 39, 99, 39, 44, 32, 34, 100, 34, 58, 125, 93] 19 false) := by subst hn; kernel_rfl
  have p1 : flow_Parse n [91, 97, 44, 32, 123, 98, 58, 32, 39, 99, 39, 44, 32, 34, 100, 34, 58, 125, 93] = some (n9, 0) := by
    unfold flow_Parse
    rw [v1, Option.bind_some]
    have x1 : flow_reader_next__o0 n (S_flow_reader.mk [91, 97, 44, 32, 123, 98, 58, 32, 39, 99, 39, 44, 32, 34, 100, 34, 58, 125, 93] 19 false) = some (0, S_flow_reader.mk [91, 97, 44, 32, 123, 98, 58, 32, 39, 99, 39, 44, 32, 34, 100, 34, 58, 125, 93] 19 false) := by subst hn; kernel_rfl
    rw [node_Right_yes n n9 fit_n9 (by decide) (by omega)]
    simp only [x1]
    rfl
  have p2 : flow_Parse n [91, 97, 44, 32, 93] = some (Z8, 3) := by subst hn; kernel_rfl
  unfold law09_awake
  rw [p1, p2]
  rfl
theorem law09_FlowWrites_true (a0 : Nd) (_ : W_api_Node a0) : ∃ n, law09_FlowWrites n a0 = some true := by
  obtain ⟨n, hn⟩ : ∃ n, n = 400000 := ⟨_, rfl⟩
  refine ⟨n, ?_⟩
  have haw := awake9 n hn
  unfold law09_FlowWrites
  obtain ⟨b, h1, h2⟩ := small_eq n a0 200 (by omega) (by omega)
  have h1 : ref08_Small n a0 200 = some b := h1
  rw [h1, Option.bind_some]
  cases b with
  | false => rw [haw]; rfl
  | true =>
    obtain ⟨hF, hz, hS⟩ := h2 rfl
    have hS := hS.mono (c := 2000) (by omega)
    rw [flow_Write_eq 12 n a0 hF hS (by omega) (by omega), ref09_Write_eq 12 n a0 hF hS (by omega) (by omega), haw]
    simp
end Go.Proofs.YtjicbelggepaiaaDoor.M
