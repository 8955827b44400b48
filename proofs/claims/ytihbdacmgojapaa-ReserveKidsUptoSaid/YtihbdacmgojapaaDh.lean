/- slices.Clone at words, commands, sums; conditions: as each theorem states. -/
import Derived.Test.YtihbdacmgojapaaDg
namespace Go.Proofs.Ytihbdacmgojapaa
open Go.RowKit

set_option maxRecDepth 100000 in
set_option maxHeartbeats 2000000 in
theorem clone_words (l : List Nd) (v : Value) (w : World) (hs : SlA w 1 v (l.map Nd.c)) (ho : ∀ y ∈ l, ∀ u ∈ y.c, u.oneCell' = true) (hm : l.length ≤ 1048576) :
    Calls Try.prog 64 #[v] w fun e w' => ∃ v', e = .returned v' ∧ Own w' w.heap.size 67 1 v' l ∧ Below w.heap.size w w' := by
  obtain ⟨i0, hi0, hz0, hz1, hz2⟩ := info_parts inf_word
  have hs' := hs
  obtain ⟨ao, b, o, cap, rfl, h2, h0, h3, h4, h5⟩ := hs'
  cases ao with
  | none =>
    have hl : l = [] := by
      rcases Nat.eq_zero_or_pos (l.map Nd.c).length with h | h
      · exact List.length_eq_zero_iff.1 (by simpa using h)
      · cases h3 h
    subst hl
    obtain rfl := h0 rfl
    have heq : ∀ w : World, (binOp BinOp.eql 40 (.slice none 0 0) (.slice none 0 0)).run Try.prog w = .ok (.bool true) w := fun w => by kernel_rfl
    clear hs ho h2 h0 h3 h4 h5 hm
    rw [List.map_nil, List.length_nil]
    go_enter Try.func64, Try.ntmps64
    go_wp2_with fail
    go_ret
    exact ⟨_, rfl, Own.nil _ _ _ _, Below.refl _ _⟩
  | some ad =>
    obtain ⟨m, hmm⟩ : ∃ m, m = l.length := ⟨_, rfl⟩
    rw [List.length_map, ← hmm] at hs ⊢
    have HM := Lib.hid hmm
    have HO : Hid (∀ c ∈ l.map Nd.c, ∀ u ∈ c, u.oneCell' = true) := one_all ho
    have HS := Lib.hid hs
    have n1 : Hid (0 + m ≤ maxLen) := by show _ ≤ _; unfold maxLen; omega
    have b1 : Hid ((0 + m) * 24 ≤ 140737488355328) := by show _ ≤ _; omega
    obtain ⟨W, hW⟩ : ∃ W, W = w.alloc (.cells #[] 67) := ⟨_, rfl⟩
    have hbW : Hid (Below w.heap.size w W) := hW ▸ (Below.refl _ _).alloc (Nat.le_refl _) _
    have HSW : Hid (SlA W 1 (.slice (some ad) m cap) (l.map Nd.c)) := HS.out.below (Nat.le_refl _) hbW.out
    have HOW : Hid (W.ownsRow w.heap.size 67 1 (.slice (some ⟨w.heap.size, 0, none⟩) 0 0) 0 []) := by
      refine ⟨by simp, Or.inr ⟨w.heap.size, 0, #[], rfl, Nat.le_refl _, by rw [hW]; exact heap_alloc_new w _, Nat.le_refl _, Nat.zero_le _, by simp, by simp⟩⟩
    have hwz := hbW.out.size
    have heq : ∀ w : World, (binOp BinOp.eql 40 (.slice (some ad) m cap) (.slice none 0 0)).run Try.prog w = .ok (.bool false) w := fun w => by kernel_rfl
    clear hs ho h2 h0 h3 h4 h5 hmm
    go_enter Try.func64, Try.ntmps64
    go_wp2_with (at_builtin; rw [← hW]; refine wpList_append_sla _ rfl (.tmp 5) (.tmp 6) 40 rfl w.heap.size 67 i0 _ 1 24 Try.underlying40 hi0 hz0 hz1 hz2 rfl (by decide) _ _ _ rfl HOW.out _ (l.map Nd.c) m (by rw [List.length_map]; exact HM.out.symm) rfl HSW.out HO.out n1.out b1.out hwz W.heap.size rfl ?_; intro ao1 cap1 w1 hown1 hgrow1 hat1)
    go_ret
    refine ⟨_, rfl, ?_, hbW.out.grown hgrow1 hwz (fun k hk => (HOW.out.lt k hk).1)⟩
    have := hown1
    rw [Nat.zero_add, List.nil_append] at this
    show w1.ownsRow w.heap.size 67 1 (.slice ao1 m cap1) l.length (l.map Nd.c).flatten
    rw [← HM.out]
    exact this
set_option maxRecDepth 100000 in
set_option maxHeartbeats 2000000 in
theorem clone_cmds (l : List Nd) (v : Value) (w : World) (hs : SlA w 10 v (l.map Nd.c)) (ho : ∀ y ∈ l, ∀ u ∈ y.c, u.oneCell' = true) (hm : l.length ≤ 1048576) :
    Calls Try.prog 61 #[v] w fun e w' => ∃ v', e = .returned v' ∧ Own w' w.heap.size 48 10 v' l ∧ Below w.heap.size w w' := by
  obtain ⟨i0, hi0, hz0, hz1, hz2⟩ := info_parts inf_cmd
  have hs' := hs
  obtain ⟨ao, b, o, cap, rfl, h2, h0, h3, h4, h5⟩ := hs'
  cases ao with
  | none =>
    have hl : l = [] := by
      rcases Nat.eq_zero_or_pos (l.map Nd.c).length with h | h
      · exact List.length_eq_zero_iff.1 (by simpa using h)
      · cases h3 h
    subst hl
    obtain rfl := h0 rfl
    have heq : ∀ w : World, (binOp BinOp.eql 43 (.slice none 0 0) (.slice none 0 0)).run Try.prog w = .ok (.bool true) w := fun w => by kernel_rfl
    clear hs ho h2 h0 h3 h4 h5 hm
    rw [List.map_nil, List.length_nil]
    go_enter Try.func61, Try.ntmps61
    go_wp2_with fail
    go_ret
    exact ⟨_, rfl, Own.nil _ _ _ _, Below.refl _ _⟩
  | some ad =>
    obtain ⟨m, hmm⟩ : ∃ m, m = l.length := ⟨_, rfl⟩
    rw [List.length_map, ← hmm] at hs ⊢
    have HM := Lib.hid hmm
    have HO : Hid (∀ c ∈ l.map Nd.c, ∀ u ∈ c, u.oneCell' = true) := one_all ho
    have HS := Lib.hid hs
    have n1 : Hid (0 + m ≤ maxLen) := by show _ ≤ _; unfold maxLen; omega
    have b1 : Hid ((0 + m) * 200 ≤ 140737488355328) := by show _ ≤ _; omega
    obtain ⟨W, hW⟩ : ∃ W, W = w.alloc (.cells #[] 48) := ⟨_, rfl⟩
    have hbW : Hid (Below w.heap.size w W) := hW ▸ (Below.refl _ _).alloc (Nat.le_refl _) _
    have HSW : Hid (SlA W 10 (.slice (some ad) m cap) (l.map Nd.c)) := HS.out.below (Nat.le_refl _) hbW.out
    have HOW : Hid (W.ownsRow w.heap.size 48 10 (.slice (some ⟨w.heap.size, 0, none⟩) 0 0) 0 []) := by
      refine ⟨by simp, Or.inr ⟨w.heap.size, 0, #[], rfl, Nat.le_refl _, by rw [hW]; exact heap_alloc_new w _, Nat.le_refl _, Nat.zero_le _, by simp, by simp⟩⟩
    have hwz := hbW.out.size
    have heq : ∀ w : World, (binOp BinOp.eql 43 (.slice (some ad) m cap) (.slice none 0 0)).run Try.prog w = .ok (.bool false) w := fun w => by kernel_rfl
    clear hs ho h2 h0 h3 h4 h5 hmm
    go_enter Try.func61, Try.ntmps61
    go_wp2_with (at_builtin; rw [← hW]; refine wpList_append_sla _ rfl (.tmp 5) (.tmp 6) 43 rfl w.heap.size 48 i0 _ 10 200 Try.underlying43 hi0 hz0 hz1 hz2 rfl (by decide) _ _ _ rfl HOW.out _ (l.map Nd.c) m (by rw [List.length_map]; exact HM.out.symm) rfl HSW.out HO.out n1.out b1.out hwz W.heap.size rfl ?_; intro ao1 cap1 w1 hown1 hgrow1 hat1)
    go_ret
    refine ⟨_, rfl, ?_, hbW.out.grown hgrow1 hwz (fun k hk => (HOW.out.lt k hk).1)⟩
    have := hown1
    rw [Nat.zero_add, List.nil_append] at this
    show w1.ownsRow w.heap.size 48 10 (.slice ao1 m cap1) l.length (l.map Nd.c).flatten
    rw [← HM.out]
    exact this
set_option maxRecDepth 100000 in
set_option maxHeartbeats 2000000 in
theorem clone_sums (l : List Nd) (v : Value) (w : World) (hs : SlA w 4 v (l.map Nd.c)) (ho : ∀ y ∈ l, ∀ u ∈ y.c, u.oneCell' = true) (hm : l.length ≤ 1048576) :
    Calls Try.prog 57 #[v] w fun e w' => ∃ v', e = .returned v' ∧ Own w' w.heap.size 100 4 v' l ∧ Below w.heap.size w w' := by
  obtain ⟨i0, hi0, hz0, hz1, hz2⟩ := info_parts inf_sum
  have hs' := hs
  obtain ⟨ao, b, o, cap, rfl, h2, h0, h3, h4, h5⟩ := hs'
  cases ao with
  | none =>
    have hl : l = [] := by
      rcases Nat.eq_zero_or_pos (l.map Nd.c).length with h | h
      · exact List.length_eq_zero_iff.1 (by simpa using h)
      · cases h3 h
    subst hl
    obtain rfl := h0 rfl
    have heq : ∀ w : World, (binOp BinOp.eql 46 (.slice none 0 0) (.slice none 0 0)).run Try.prog w = .ok (.bool true) w := fun w => by kernel_rfl
    clear hs ho h2 h0 h3 h4 h5 hm
    rw [List.map_nil, List.length_nil]
    go_enter Try.func57, Try.ntmps57
    go_wp2_with fail
    go_ret
    exact ⟨_, rfl, Own.nil _ _ _ _, Below.refl _ _⟩
  | some ad =>
    obtain ⟨m, hmm⟩ : ∃ m, m = l.length := ⟨_, rfl⟩
    rw [List.length_map, ← hmm] at hs ⊢
    have HM := Lib.hid hmm
    have HO : Hid (∀ c ∈ l.map Nd.c, ∀ u ∈ c, u.oneCell' = true) := one_all ho
    have HS := Lib.hid hs
    have n1 : Hid (0 + m ≤ maxLen) := by show _ ≤ _; unfold maxLen; omega
    have b1 : Hid ((0 + m) * 64 ≤ 140737488355328) := by show _ ≤ _; omega
    obtain ⟨W, hW⟩ : ∃ W, W = w.alloc (.cells #[] 100) := ⟨_, rfl⟩
    have hbW : Hid (Below w.heap.size w W) := hW ▸ (Below.refl _ _).alloc (Nat.le_refl _) _
    have HSW : Hid (SlA W 4 (.slice (some ad) m cap) (l.map Nd.c)) := HS.out.below (Nat.le_refl _) hbW.out
    have HOW : Hid (W.ownsRow w.heap.size 100 4 (.slice (some ⟨w.heap.size, 0, none⟩) 0 0) 0 []) := by
      refine ⟨by simp, Or.inr ⟨w.heap.size, 0, #[], rfl, Nat.le_refl _, by rw [hW]; exact heap_alloc_new w _, Nat.le_refl _, Nat.zero_le _, by simp, by simp⟩⟩
    have hwz := hbW.out.size
    have heq : ∀ w : World, (binOp BinOp.eql 46 (.slice (some ad) m cap) (.slice none 0 0)).run Try.prog w = .ok (.bool false) w := fun w => by kernel_rfl
    clear hs ho h2 h0 h3 h4 h5 hmm
    go_enter Try.func57, Try.ntmps57
    go_wp2_with (at_builtin; rw [← hW]; refine wpList_append_sla _ rfl (.tmp 5) (.tmp 6) 46 rfl w.heap.size 100 i0 _ 4 64 Try.underlying46 hi0 hz0 hz1 hz2 rfl (by decide) _ _ _ rfl HOW.out _ (l.map Nd.c) m (by rw [List.length_map]; exact HM.out.symm) rfl HSW.out HO.out n1.out b1.out hwz W.heap.size rfl ?_; intro ao1 cap1 w1 hown1 hgrow1 hat1)
    go_ret
    refine ⟨_, rfl, ?_, hbW.out.grown hgrow1 hwz (fun k hk => (HOW.out.lt k hk).1)⟩
    have := hown1
    rw [Nat.zero_add, List.nil_append] at this
    show w1.ownsRow w.heap.size 100 4 (.slice ao1 m cap1) l.length (l.map Nd.c).flatten
    rw [← HM.out]
    exact this
end Go.Proofs.Ytihbdacmgojapaa
