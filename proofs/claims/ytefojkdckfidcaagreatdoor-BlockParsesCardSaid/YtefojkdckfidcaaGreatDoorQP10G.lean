import Derived.Test.YtefojkdckfidcaaGreatDoorQP10E
set_option linter.all false
namespace Go.Proofs.YtefojkdckfidcaaGreatDoor.M
open Go Go.Proofs.YtefojkdckfidcaaGreatDoor.RX Go.Proofs.YtefojkdckfidcaaGreatDoor.PL
set_option maxRecDepth 100000
def fitB:Nat → Nd → Bool
 | 0,_=>false
 | d + 1,t=>decide (t.f_Kids.length ≤ 2000) && decide (t.f_Keys.length ≤ 2000) && decide (t.f_Kind ≠ 1 → t.f_Text = []) && decide (t.f_Kind ≠ 3 → t.f_Keys = []) && decide (t.f_Kind = 3 → t.f_Keys.length = t.f_Kids.length ∧ t.f_Keys.Nodup) && (decide (t.f_Kind ≥ 2) || t.f_Kids.isEmpty) && decide (0 ≤ t.f_Kind ∧ t.f_Kind ≤ 3) && t.f_Kids.all (fitB d)
theorem fitB_fit:∀ (d:Nat) (t:Nd),fitB d t = true → Fit d t
 | 0,_,h=>by cases h
 | d + 1,t,h=>by
  unfold fitB at h
  simp only [Bool.and_eq_true,decide_eq_true_eq,List.all_eq_true,Bool.or_eq_true,List.isEmpty_iff] at h
  obtain ⟨⟨⟨⟨⟨⟨⟨h1,h2⟩,h3⟩,h4⟩,h5⟩,h6⟩,h7⟩,h8⟩:=h
  exact ⟨h1,h2,h3,h4,h5,fun h=>h6.resolve_left (by omega),h7,fun x hx=>fitB_fit d x (h8 x hx)⟩
def n10:Nd:=S_api_Node.mk 3 [] [[97]] [S_api_Node.mk 2 [] [] [S_api_Node.mk 1 [120] [] [],S_api_Node.mk 3 [] [[98],[99]] [S_api_Node.mk 1 [49] [] [],S_api_Node.mk 2 [] [] [S_api_Node.mk 1 [50] [] []]]]]
theorem awake10 (n:Nat) (hn:600000 ≤ n):law10_awake n = some true:=by
 obtain ⟨m,rfl⟩:∃ m,n = m + 60:=⟨n - 60,by omega⟩
 have b1:block_reader_block__o0_s2 (m + 60) (S_block_reader.mk [S_line_Line.mk 1 0 [97,58],S_line_Line.mk 2 0 [45,32,120],S_line_Line.mk 3 0 [45,32,98,58,32,49],S_line_Line.mk 4 2 [99,58,32,91,50,93]] 0 0 0) = some (n10,S_block_reader.mk [S_line_Line.mk 1 0 [97,58],S_line_Line.mk 2 2 [120],S_line_Line.mk 3 2 [98,58,32,49],S_line_Line.mk 4 2 [99,58,32,91,50,93]] 4 0 0):=by clear hn; kernel_rfl
 have s1:line_Split_o (m + 60) [97,58,10,45,32,120,10,45,32,98,58,32,49,10,32,32,99,58,32,91,50,93,10] = some ([S_line_Line.mk 1 0 [97,58],S_line_Line.mk 2 0 [45,32,120],S_line_Line.mk 3 0 [45,32,98,58,32,49],S_line_Line.mk 4 2 [99,58,32,91,50,93]],0,0):=by clear hn; kernel_rfl
 have v1:block_Parse (m + 60) [97,58,10,45,32,120,10,45,32,98,58,32,49,10,32,32,99,58,32,91,50,93,10] = some (n10,0,0):=by
  unfold block_Parse
  rw [s1,Option.bind_some,if_neg (by decide),if_neg (by decide)]
  simp only
  rw [b1,Option.bind_some]
  simp only
  rw [node_Right_yes (m + 60) n10 (fitB_fit _ _ (by decide)) (by decide) (by omega)]
  rfl
 have v2:block_Parse (m + 60) [97,58,32,49,10,32,32,98,58,32,50,10] = some (Z8,2,3):=by clear hn; kernel_rfl
 unfold law10_awake
 rw [v1,v2]
 rfl
end Go.Proofs.YtefojkdckfidcaaGreatDoor.M
